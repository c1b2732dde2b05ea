/-
  Fa, Fb, Fc, Fd, Fp, Fg, Ya: texts pasted together.
-/
import Derived.Test.YtpmlljbebdidgaaDoorM1
import Derived.Deep.DeepCutAuto
import Derived.Deep.RegionWith
import Derived.StillTailTactics
/-
  Nets in memory; net.Check tells what the plain function tells.
-/
namespace Go.Proofs.YtpmlljbebdidgaaDoor
open Go.RowKit

/-- an arc: from, to, give, take, start -/
structure ArcV where
  f : Int
  t : Int
  g : Int
  k : Int
  s : Int
def ArcV.cells (a : ArcV) : List Value := [.int .i64 a.f, .int .i64 a.t, .int .i64 a.g, .int .i64 a.k, .int .i64 a.s]
def ArcV.fit (a : ArcV) : Prop := fits a.f ∧ fits a.t ∧ fits a.g ∧ fits a.k ∧ fits a.s
def cellsA (ars : List ArcV) : List Value := ars.flatMap ArcV.cells
theorem cellsA_cons (a : ArcV) (ars : List ArcV) : cellsA (a :: ars) = a.cells ++ cellsA ars := rfl
theorem cellsA_length (ars : List ArcV) : (cellsA ars).length = ars.length * 5 := by
  induction ars with
  | nil => rfl
  | cons a ars ih => rw [cellsA_cons, List.length_append, ih, List.length_cons]; simp [ArcV.cells]; omega
theorem cellsA_at (ars : List ArcV) : ∀ (k : Nat) (a : ArcV), ars[k]? = some a → ∀ j u, a.cells[j]? = some u → (cellsA ars)[k * 5 + j]? = some u := by
  induction ars with
  | nil => intro k a h; simp at h
  | cons b ars ih =>
    intro k a h j u hu
    rw [cellsA_cons]
    match k, h with
    | 0, h =>
      simp at h
      subst h
      have hj : j < b.cells.length := (List.getElem?_eq_some_iff.1 hu).1
      rw [Nat.zero_mul, Nat.zero_add, List.getElem?_append_left hj]; exact hu
    | k + 1, h =>
      rw [List.getElem?_append_right (by simp [ArcV.cells]; omega)]
      have e : (k + 1) * 5 + j - b.cells.length = k * 5 + j := by simp [ArcV.cells]; omega
      rw [e]
      exact ih k a (by simpa using h) j u hu
theorem Rd.arc {w : World} {B : Nat} {A : Option Addr} {ars : List ArcV} {k : Nat} (h : Rd w B A (cellsA ars)) (hx : ∀ a ∈ ars, a.fit) (hk : k < ars.length) :
    ∃ b off a, A = some ⟨b, off, none⟩ ∧ b < B ∧ a.fit ∧ w.cell? ⟨b, off + k * 5, none⟩ = some (.int .i64 a.f) ∧ w.cell? ⟨b, off + k * 5 + 1, none⟩ = some (.int .i64 a.t) ∧ w.cell? ⟨b, off + k * 5 + 2, none⟩ = some (.int .i64 a.g) ∧
      w.cell? ⟨b, off + k * 5 + 3, none⟩ = some (.int .i64 a.k) ∧ w.cell? ⟨b, off + k * 5 + 4, none⟩ = some (.int .i64 a.s) ∧ Hid (ars.drop k = a :: ars.drop (k + 1)) ∧ Hid (ars[k]? = some a) := by
  rcases h with h | ⟨b, off, ha, hb, hc⟩
  · have := cellsA_length ars; rw [h] at this; simp at this; omega
  · have hg : ars[k]? = some ars[k] := List.getElem?_eq_getElem hk
    have at_ : ∀ j u, ars[k].cells[j]? = some u → w.cell? ⟨b, off + (k * 5 + j), none⟩ = some u := fun j u hu' => hc (k * 5 + j) u (cellsA_at ars k ars[k] hg j u hu')
    refine ⟨b, off, ars[k], ha, hb, hx _ (List.getElem_mem _), ?_, ?_, ?_, ?_, ?_, List.drop_eq_getElem_cons hk, hg⟩
    · have := at_ 0 _ rfl; simpa [Nat.add_assoc] using this
    · have := at_ 1 _ rfl; simpa [Nat.add_assoc] using this
    · have := at_ 2 _ rfl; simpa [Nat.add_assoc] using this
    · have := at_ 3 _ rfl; simpa [Nat.add_assoc] using this
    · have := at_ 4 _ rfl; simpa [Nat.add_assoc] using this

/-- what is wrong with an arc: nought: nothing -/
def arcF (n : Int) (a : ArcV) : Int :=
  if a.f < 0 ∨ a.t < 0 ∨ n ≤ a.f ∨ n ≤ a.t then 100 else if a.g < 1 ∨ a.k < 1 ∨ 64 < a.g ∨ 64 < a.k then 101 else if a.s < 0 ∨ 256 < a.s then 88 else 0
def arcsF (n : Int) : List ArcV → Int
  | [] => 0
  | a :: ars => if arcF n a = 0 then arcsF n ars else arcF n a
def checkF (n : Int) (ars : List ArcV) : Int := if n < 1 ∨ 32 < n then 100 else if 96 < ars.length then 81 else arcsF n ars

set_option maxRecDepth 100000 in
set_option maxHeartbeats 1000000 in
theorem check_any (n : Int) (ars : List ArcV) (A : Option Addr) (l c : Nat) (w : World) (hl : ars.length = l) (hx : ∀ a ∈ ars, a.fit) (hr : Rd w w.heap.size A (cellsA ars)) (hm : l ≤ maxLen) :
    Calls Tryd.prog 30 #[.agg #[.int .i64 n, .slice A l c]] w fun e w' => e = .returned (.int .i64 (checkF n ars)) ∧ Below w.heap.size w w' := by
  subst hl
  unfold maxLen at hm
  have b0 : ∀ o, Below w.heap.size w (w.alloc o) := fun o => (Below.refl _ _).alloc (Nat.le_refl _) o
  by_cases h1 : n < 1
  · have e : checkF n ars = 100 := if_pos (.inl h1)
    rw [e]
    go_enter Tryd.func30, Tryd.ntmps30
    go_wp2
    go_ret
    exact ⟨rfl, b0 _⟩
  by_cases h2 : 32 < n
  · have e : checkF n ars = 100 := if_pos (.inr h2)
    rw [e]
    go_enter Tryd.func30, Tryd.ntmps30
    go_wp2
    go_ret
    exact ⟨rfl, b0 _⟩
  by_cases h3 : 96 < ars.length
  · have e : checkF n ars = 81 := by unfold checkF; rw [if_neg (by omega), if_pos h3]
    rw [e]
    go_enter Tryd.func30, Tryd.ntmps30
    go_wp2
    go_ret
    exact ⟨rfl, b0 _⟩
  have e : checkF n ars = arcsF n ars := by unfold checkF; rw [if_neg (by omega), if_neg h3]
  rw [e]
  clear e
  go_enter Tryd.func30, Tryd.ntmps30
  go_wp2
  go_loopw [20] (fun i wr => ∃ k : Nat, k ≤ ars.length ∧ i = .int .i64 k ∧ Below w.heap.size w wr ∧ Blk wr w.heap.size 30 #[.int .i64 n, .slice A ars.length c] ∧ Hid (arcsF n ars = arcsF n (ars.drop k))) (fun i _ => ars.length - (intOf i).toNat)
  case atStart => exact ⟨0, Nat.zero_le _, rfl, b0 _, Blk.new w _ rfl _ _, rfl⟩
  case round =>
    obtain ⟨k, hk, rfl, hb, kb, He⟩ := hrel
    have k0 := kb.cell 0
    have k1 := kb.cell 1
    simp at k0 k1
    by_cases hlt : k < ars.length
    · obtain ⟨b, off, a, rfl, hbl, hf, c0, c1, c2, c3, c4, hd, -⟩ := (hr.below hb (Nat.le_refl _)).arc hx hlt
      have hlt0 := kb.lt
      obtain ⟨W1, hW1⟩ : ∃ W1, wr.alloc (.cells #[.int .i64 a.f, .int .i64 a.t, .int .i64 a.g, .int .i64 a.k, .int .i64 a.s] 66) = W1 := ⟨_, rfl⟩
      have bn : Below w.heap.size w W1 := hW1 ▸ hb.alloc hb.size _
      have kn : Blk W1 w.heap.size 30 #[.int .i64 n, .slice (some ⟨b, off, none⟩) ars.length c] := hW1 ▸ kb.alloc _
      have ka : Blk W1 wr.heap.size 66 #[.int .i64 a.f, .int .i64 a.t, .int .i64 a.g, .int .i64 a.k, .int .i64 a.s] := hW1 ▸ Blk.new wr _ rfl _ _
      have n0 := kn.cell 0
      have d0 := ka.cell 0
      have d1 := ka.cell 1
      have d2 := ka.cell 2
      have d3 := ka.cell 3
      have d4 := ka.cell 4
      simp at n0 d0 d1 d2 d3 d4
      obtain ⟨p1, hp1⟩ : ∃ p, decide (a.f < 0 ∨ a.t < 0 ∨ n ≤ a.f ∨ n ≤ a.t) = p := ⟨_, rfl⟩
      obtain ⟨p2, hp2⟩ : ∃ p, decide (a.g < 1 ∨ a.k < 1 ∨ 64 < a.g ∨ 64 < a.k) = p := ⟨_, rfl⟩
      obtain ⟨p3, hp3⟩ : ∃ p, decide (a.s < 0 ∨ 256 < a.s) = p := ⟨_, rfl⟩
      have Hst : Hid (arcsF n ars = if p1 = true then 100 else if p2 = true then 101 else if p3 = true then 88 else arcsF n (ars.drop (k + 1))) := by
        unfold Hid
        rw [He.out, hd.out, arcsF, arcF, ← hp1, ← hp2, ← hp3]
        simp only [decide_eq_true_eq]
        split
        · rfl
        · split
          · rfl
          · split
            · rfl
            · rfl
      clear He hd kb k1 ka
      have Hp1 := Lib.hid hp1
      have Hp2 := Lib.hid hp2
      have Hp3 := Lib.hid hp3
      clear hp1 hp2 hp3
      go_upto_region 8 with fail
      try rw [hW1]
      clear hW1 c0 c1 c2 c3 c4 k0
      go_cut [24] (fun s wx => wx = W1 ∧ s = .bool p1)
      case first =>
        go_wp2_with fail
        all_goals go_meet
        all_goals (refine ⟨rfl, ?_⟩; rw [← Hp1.out]; first | (rw [decide_eq_true (by omega)]; done) | (rw [decide_eq_false (by omega)]; done) | (congr 1; rw [Bool.eq_iff_iff]; simp only [Bool.or_eq_true, decide_eq_true_eq] <;> omega))
      case rest =>
        obtain ⟨rfl, rfl⟩ := hcut
        clear Hp1
        cases p1
        · go_upto_region 10 with fail
          go_cut [41] (fun s wx => wx = wc ∧ s = .bool p2)
          case first =>
            go_wp2_with fail
            all_goals go_meet
            all_goals (refine ⟨rfl, ?_⟩; rw [← Hp2.out]; first | (rw [decide_eq_true (by omega)]; done) | (rw [decide_eq_false (by omega)]; done) | (congr 1; rw [Bool.eq_iff_iff]; simp only [Bool.or_eq_true, decide_eq_true_eq] <;> omega))
          case rest =>
            obtain ⟨rfl, rfl⟩ := hcut
            clear Hp2
            cases p2
            · go_upto_region 12 with fail
              go_cut [56] (fun s wx => wx = wc ∧ s = .bool p3)
              case first =>
                go_wp2_with fail
                all_goals go_meet
                all_goals (refine ⟨rfl, ?_⟩; rw [← Hp3.out]; first | (rw [decide_eq_true (by omega)]; done) | (rw [decide_eq_false (by omega)]; done) | (congr 1; rw [Bool.eq_iff_iff]; simp only [Bool.or_eq_true, decide_eq_true_eq] <;> omega))
              case rest =>
                obtain ⟨rfl, rfl⟩ := hcut
                clear Hp3
                cases p3
                · go_wp2
                  go_roundw
                  case rel => exact ⟨k + 1, by omega, by go_num, bn, kn, Hst⟩
                  case measure => simp [intOf]; omega
                · go_wp2
                  go_ret
                  exact ⟨by rw [Hst.out]; rfl, bn⟩
            · go_wp2
              go_ret
              exact ⟨by rw [Hst.out]; rfl, bn⟩
        · go_wp2
          go_ret
          exact ⟨by rw [Hst.out]; rfl, bn⟩
    · have hd : ars.drop k = [] := List.drop_eq_nil_of_le (by omega)
      have hst : arcsF n ars = 0 := by rw [He.out, hd]; rfl
      have Hst := Lib.hid hst
      clear hst hd He
      go_wp2
      go_ret
      exact ⟨by rw [Hst.out]; rfl, hb⟩
end Go.Proofs.YtpmlljbebdidgaaDoor
/-
  The document's Check of a net tells the same.
-/
namespace Go.Proofs.YtpmlljbebdidgaaDoor
open Go.RowKit

theorem Blk.below {w w' : World} {g : Nat} {t : TypeId} {cs : Array Value} (h : Blk w g t cs) {B : Nat} (hb : Below B w w') (hB : g < B) : Blk w' g t cs := (hb.block g hB).trans h

def nodeB (n v : Int) : Bool := decide (0 ≤ v ∧ v < n)
def rateB (v : Int) : Bool := decide (1 ≤ v ∧ v ≤ 64)


end Go.Proofs.YtpmlljbebdidgaaDoor
/-
  Who stands above whom: the root of a node; the closure 'find' of forest.Of.
-/
namespace Go.Proofs.YtpmlljbebdidgaaDoor
open Go.RowKit

/-- who stands above a node -/
def upN (up : List Int) (v : Nat) : Nat := (up[v]?.getD 0).toNat
def rootF (up : List Int) : Nat → Nat → Nat
  | 0, v => v
  | f + 1, v => if upN up v < v then rootF up f (upN up v) else v
def root (up : List Int) (v : Nat) : Nat := rootF up v v
/-- each node's number is at least that of the one above -/
def Good (up : List Int) : Prop := ∀ (v : Nat) (x : Int), up[v]? = some x → 0 ≤ x ∧ x ≤ v

theorem rootF_more (up : List Int) : ∀ (f v : Nat), v ≤ f → rootF up f v = rootF up v v := by
  intro f
  induction f using Nat.strongRecOn with
  | ind f ih =>
    intro v hv
    match f, v with
    | 0, 0 => rfl
    | f + 1, 0 =>
      rw [rootF, rootF, if_neg (by omega)]
    | f + 1, v + 1 =>
      rw [rootF, rootF]
      by_cases h : upN up (v + 1) < v + 1
      · rw [if_pos h, if_pos h, ih f (by omega) _ (by omega)]
        rcases Nat.lt_or_ge v f with hlt | hge
        · rw [ih v (by omega) _ (by omega)]
        · obtain rfl : v = f := by omega
          rw [ih v (by omega) _ (by omega)]
      · rw [if_neg h, if_neg h]
theorem root_step (up : List Int) (v : Nat) : root up v = if upN up v < v then root up (upN up v) else v := by
  unfold root
  match v with
  | 0 => rw [if_neg (by omega)]; rfl
  | v + 1 =>
    rw [rootF]
    by_cases h : upN up (v + 1) < v + 1
    · rw [if_pos h, if_pos h, rootF_more up v _ (by omega)]
    · rw [if_neg h, if_neg h]
theorem upN_of {up : List Int} {v : Nat} {x : Int} (h : up[v]? = some x) : upN up v = x.toNat := by unfold upN; rw [h]; rfl
theorem root_le (up : List Int) : ∀ v, root up v ≤ v := by
  intro v
  induction v using Nat.strongRecOn with
  | ind v ih =>
    rw [root_step]
    by_cases h : upN up v < v
    · rw [if_pos h]; exact Nat.le_trans (ih _ h) (by omega)
    · rw [if_neg h]; exact Nat.le_refl _
/-- a root's root is itself -/
theorem root_root (up : List Int) : ∀ v, root up (root up v) = root up v := by
  intro v
  induction v using Nat.strongRecOn with
  | ind v ih =>
    by_cases h : upN up v < v
    · have e : root up v = root up (upN up v) := by rw [root_step up v, if_pos h]
      rw [e]; exact ih _ h
    · have e : root up v = v := by rw [root_step up v, if_neg h]
      rw [e]; exact e

theorem Good.fit {up : List Int} (h : Good up) (hl : up.length ≤ 32) : AllFit up := by
  intro x hx
  obtain ⟨v, hv⟩ := List.mem_iff_getElem?.1 hx
  have hvl := (List.getElem?_eq_some_iff.1 hv).1
  have := h v x hv
  unfold fits; omega

set_option maxRecDepth 100000 in
theorem find_any (up : List Int) (v : Nat) (A : Option Addr) (n c B Bx : Nat) (w : World) (hbox : w.cell? ⟨Bx, 0, none⟩ = some (.slice A n c)) (hn : up.length = n) (hr : Rd w B A (cellsI up)) (hg : Good up) (hl : n ≤ 32) (hv : v < n) :
    Calls Tryd.prog 39 #[.int .i64 v, .pointer (some ⟨Bx, 0, none⟩)] w fun e w' => e = .returned (.int .i64 (root up v : Nat)) ∧ w = w' := by
  subst hn
  have hf := hg.fit hl
  go_enter Tryd.func39, Tryd.ntmps39
  go_wp2
  go_loop [0] (fun s => ∃ k : Nat, s = .int .i64 k ∧ k < up.length ∧ Hid (root up v = root up k)) (fun s => (intOf s).toNat)
  case atStart => exact ⟨v, rfl, hv, rfl⟩
  case round =>
    obtain ⟨k, rfl, hk, Hk⟩ := hrel
    obtain ⟨b, off, x, rfl, hb, hxk, hc, hd, hxx⟩ := hr.at_ hf hk
    obtain ⟨hx0, hx1⟩ := hg k x hxx.out
    have hu := upN_of hxx.out
    by_cases hlt : x < k
    · have h1 : (x != (k : Int)) = true := by simp; omega
      have Hk2 : Hid (root up v = root up x.toNat) := by unfold Hid; rw [Hk.out, root_step up k, hu, if_pos (by omega)]
      obtain ⟨y, rfl⟩ : ∃ y : Nat, x = y := ⟨x.toNat, by omega⟩
      clear hd hxx Hk hu
      go_wp2
      go_round
      case rel => exact ⟨y, rfl, by omega, by simpa using Hk2⟩
      case measure => simp [intOf]; omega
    · obtain rfl : x = k := by omega
      have h1 : ((k : Int) != (k : Int)) = false := by simp
      have Hk2 : Hid (root up v = k) := by unfold Hid; rw [Hk.out, root_step up k, hu, if_neg (by omega)]
      clear hd hxx Hk hu
      go_wp2
      go_ret
      exact ⟨by rw [Hk2.out]; rfl, rfl⟩

def selfs (n : Nat) : List Int := (List.range n).map fun v : Nat => (v : Int)
theorem selfs_length (n : Nat) : (selfs n).length = n := by simp [selfs]
theorem selfs_at {n v : Nat} (h : v < n) : (selfs n)[v]? = some (v : Int) := by simp [selfs, h]
theorem selfs_good (n : Nat) : Good (selfs n) := fun v x h => by
  have hv := (List.getElem?_eq_some_iff.1 h).1
  rw [selfs_length] at hv
  rw [selfs_at hv] at h
  cases h
  omega
/-- one more of the numbers in their own places -/
theorem selfs_next (n k : Nat) (hk : k < n) : (selfs k ++ List.replicate (n - k) (0 : Int)).set k k = selfs (k + 1) ++ List.replicate (n - (k + 1)) 0 := by
  obtain ⟨d, rfl⟩ : ∃ d, n = k + 1 + d := ⟨n - (k + 1), by omega⟩
  have e1 : k + 1 + d - k = d + 1 := by omega
  have e2 : k + 1 + d - (k + 1) = d := by omega
  rw [e1, e2, List.replicate_succ, List.set_append_right _ _ (by rw [selfs_length]; omega), selfs_length, Nat.sub_self, List.set_cons_zero]
  simp [selfs, List.range_succ]
end Go.Proofs.YtpmlljbebdidgaaDoor
/-
  forest.Of: the walk.
-/
namespace Go.Proofs.YtpmlljbebdidgaaDoor
open Go.RowKit

/-- arc by arc: who stands above whom, and the forest's arcs; i: the next arc's number -/
def forestGo : Nat → List Int → List Int → List ArcV → List Int × List Int
  | _, up, tr, [] => (up, tr)
  | i, up, tr, a :: ars =>
    if root up a.f.toNat = root up a.t.toNat then forestGo (i + 1) up tr ars
    else forestGo (i + 1) (up.set (max (root up a.f.toNat) (root up a.t.toNat)) (min (root up a.f.toNat) (root up a.t.toNat) : Nat)) (tr ++ [(i : Int)]) ars
def upF (n : Nat) (ars : List ArcV) : List Int := (forestGo 0 (selfs n) [] ars).1
def treeF (n : Nat) (ars : List ArcV) : List Int := (forestGo 0 (selfs n) [] ars).2
def homeF (n : Nat) (ars : List ArcV) : List Int := (List.range n).map fun v : Nat => (root (upF n ars) v : Int)

theorem arcs_ok (n : Int) : ∀ (ars : List ArcV), arcsF n ars = 0 → ∀ a ∈ ars, 0 ≤ a.f ∧ a.f < n ∧ 0 ≤ a.t ∧ a.t < n := by
  intro ars
  induction ars with
  | nil => intro _ a ha; cases ha
  | cons b ars ih =>
    intro h a ha
    rw [arcsF] at h
    by_cases hb : arcF n b = 0
    · rw [if_pos hb] at h
      rcases List.mem_cons.1 ha with rfl | ha
      · unfold arcF at hb
        split at hb
        · cases hb
        · omega
      · exact ih h a ha
    · rw [if_neg hb] at h; exact absurd h hb
/-- what one node's new place does to the roots -/
theorem root_set (up : List Int) (hi lo : Nat) (hlo : lo < hi) (hh : hi < up.length) (hr : root up hi = hi) (hl : root up lo = lo) :
    ∀ v, v < up.length → root (up.set hi (lo : Nat)) v = if root up v = hi then lo else root up v := by
  intro v
  induction v using Nat.strongRecOn with
  | ind v ih =>
    intro hv
    by_cases he : v = hi
    · subst he
      have hu : upN (up.set v (lo : Nat)) v = lo := by
        unfold upN; rw [List.getElem?_set_self hh]; simp
      rw [root_step, hu, if_pos hlo, ih lo hlo (by omega), hl, if_neg (by omega), hr, if_pos rfl]
    · have hu : upN (up.set hi (lo : Nat)) v = upN up v := by
        unfold upN; rw [List.getElem?_set_ne (by omega)]
      rw [root_step (up.set hi (lo : Nat)) v, hu, root_step up v]
      by_cases h : upN up v < v
      · rw [if_pos h, if_pos h]; exact ih _ h (by omega)
      · rw [if_neg h, if_neg h, if_neg he]
theorem good_set (up : List Int) (hi lo : Nat) (hg : Good up) (hlo : lo ≤ hi) : Good (up.set hi (lo : Nat)) := by
  intro v x h
  by_cases he : v = hi
  · subst he
    rw [List.getElem?_set_self (by have := (List.getElem?_eq_some_iff.1 h).1; simpa using this)] at h
    cases h; omega
  · rw [List.getElem?_set_ne (by omega)] at h
    exact hg v x h

theorem own_lt {w : World} {base : Nat} {e : TypeId} {size g o n c : Nat} {xs : List Value} (h : w.ownsRow base e size (.slice (some ⟨g, o, none⟩) n c) n xs) : g < w.heap.size := by
  rcases h.2 with ⟨h', _⟩ | ⟨g', cap, cur, hv, _, hh, _⟩
  · cases h'
  · injection hv with hv
    injection hv with hv
    injection hv with h1 _
    subst h1
    rcases Nat.lt_or_ge g w.heap.size with hlt | hge
    · exact hlt
    · rw [Array.getElem?_eq_none hge] at hh; cases hh

/-- the roots of the first k nodes -/
def rootsK (up : List Int) (k : Nat) : List Int := (List.range k).map fun v : Nat => (root up v : Int)
theorem rootsK_next (up : List Int) (n k : Nat) (hk : k < n) : (rootsK up k ++ List.replicate (n - k) (0 : Int)).set k (root up k : Nat) = rootsK up (k + 1) ++ List.replicate (n - (k + 1)) 0 := by
  obtain ⟨d, rfl⟩ : ∃ d, n = k + 1 + d := ⟨n - (k + 1), by omega⟩
  have e1 : k + 1 + d - k = d + 1 := by omega
  have e2 : k + 1 + d - (k + 1) = d := by omega
  have e3 : (rootsK up k).length = k := by simp [rootsK]
  rw [e1, e2, List.replicate_succ, List.set_append_right _ _ (by omega), e3, Nat.sub_self, List.set_cons_zero]
  simp [rootsK, List.range_succ]

/-- the memory that forest.Of holds: the net's box, the result's box, 'up' and its cell, the forest and its two lists; vt: what is owned as Tree, vf: what the forest's cell says -/
structure OfSt (w wr : World) (n l c : Nat) (A : Option Addr) (g gh bx bf : Nat) (up home tr : List Int) (vt vf : Value) : Prop where
  ou : wr.ownsRow g 3 1 (.slice (some ⟨g, 0, none⟩) n n) n (cellsI up)
  oh : wr.ownsRow gh 3 1 (.slice (some ⟨gh, 0, none⟩) n n) n (cellsI home)
  ot : wr.ownsRow (bf + 1) 3 1 vt tr.length (cellsI tr)
  ku : Blk wr bx 27 #[.slice (some ⟨g, 0, none⟩) n n]
  kf : Blk wr bf 70 #[vf, .slice (some ⟨gh, 0, none⟩) n n]
  kn : Blk wr w.heap.size 30 #[.int .i64 n, .slice A l c]
  kr : Blk wr (w.heap.size + 1) 70 #[.slice none 0 0, .slice none 0 0]
  bw : Below w.heap.size w wr
  hsz : bf + 1 ≤ wr.heap.size
  s1 : w.heap.size + 1 + 1 ≤ g
  s2 : g < bx
  s3 : bx < gh
  s4 : gh < bf
theorem OfSt.alloc {w wr : World} {n l c : Nat} {A : Option Addr} {g gh bx bf : Nat} {up home tr : List Int} {vt vf : Value} (h : OfSt w wr n l c A g gh bx bf up home tr vt vf) (o : Obj) : OfSt w (wr.alloc o) n l c A g gh bx bf up home tr vt vf :=
  ⟨h.ou.alloc o, h.oh.alloc o, h.ot.alloc o, h.ku.alloc o, h.kf.alloc o, h.kn.alloc o, h.kr.alloc o, h.bw.alloc h.bw.size o, by have := h.hsz; simp; omega, h.s1, h.s2, h.s3, h.s4⟩
theorem OfSt.drawn {w wr : World} {n l c : Nat} {A : Option Addr} {g gh bx bf : Nat} {up home tr : List Int} {vt vf : Value} (h : OfSt w wr n l c A g gh bx bf up home tr vt vf) (d : Nat) : OfSt w (wr.drewN d) n l c A g gh bx bf up home tr vt vf :=
  ⟨h.ou, h.oh, h.ot, h.ku, h.kf, h.kn, h.kr, Below.drewN h.bw d, h.hsz, h.s1, h.s2, h.s3, h.s4⟩
theorem OfSt.grown {w wr w' : World} {n l c : Nat} {A : Option Addr} {g gh bx bf : Nat} {up home tr tr' : List Int} {vt vt' vf : Value} (h : OfSt w wr n l c A g gh bx bf up home tr vt vf) (hg : wr.grownBy w' vt.ownBlock)
    (ho : w'.ownsRow (bf + 1) 3 1 vt' tr'.length (cellsI tr')) : OfSt w w' n l c A g gh bx bf up home tr' vt' vf := by
  have := h.s1; have := h.s2; have := h.s3; have := h.s4
  have hlt := h.ot.lt
  have ne : ∀ k, k < bf + 1 → some k ≠ vt.ownBlock := fun k hk he => by have := (hlt k he.symm).1; omega
  exact ⟨h.ou.kept hg (.inr (by simp [Value.ownBlock]; exact ne g (by omega))), h.oh.kept hg (.inr (by simp [Value.ownBlock]; exact ne gh (by omega))), ho, h.ku.grown hg (ne bx (by omega)), h.kf.grown hg (ne bf (by omega)),
    h.kn.grown hg (ne _ (by omega)), h.kr.grown hg (ne _ (by omega)), h.bw.grown hg h.bw.size (fun k hk => by have := hlt k hk; omega), Nat.le_trans h.hsz hg.size, h.s1, h.s2, h.s3, h.s4⟩
theorem OfSt.setF {w wr : World} {n l c : Nat} {A : Option Addr} {g gh bx bf : Nat} {up home tr : List Int} {vt vf : Value} (h : OfSt w wr n l c A g gh bx bf up home tr vt vf) (v : Value) : OfSt w (wr.setCell ⟨bf, 0, none⟩ v) n l c A g gh bx bf up home tr vt v := by
  have := h.s1; have := h.s2; have := h.s3; have := h.s4
  exact ⟨own_set h.ou h.kf (by decide) 0 v, own_set h.oh h.kf (by decide) 0 v, own_set h.ot h.kf (by decide) 0 v, h.ku.far (by simp; omega) v, by simpa using h.kf.set 0 v, h.kn.far (by simp; omega) v, h.kr.far (by simp; omega) v,
    h.bw.setCell (by simp; omega) v, by have := h.hsz; simp; omega, h.s1, h.s2, h.s3, h.s4⟩
theorem OfSt.setU {w wr : World} {n l c : Nat} {A : Option Addr} {g gh bx bf : Nat} {up home tr : List Int} {vt vf : Value} (h : OfSt w wr n l c A g gh bx bf up home tr vt vf) (j : Nat) (u : Int) : OfSt w (wr.setCell ⟨g, j, none⟩ (.int .i64 u)) n l c A g gh bx bf (up.set j u) home tr vt vf := by
  have := h.s1; have := h.s2; have := h.s3; have := h.s4
  have ho := (h.ou.stored j (.int .i64 u)).1
  have hgr : wr.grownBy (wr.setCell ⟨g, j, none⟩ (.int .i64 u)) (some g) := (h.ou.stored j (.int .i64 u)).2
  have hlt := h.ot.lt
  rw [cellsI_set] at ho
  exact ⟨ho, h.oh.kept hgr (.inr (by simp [Value.ownBlock]; omega)), h.ot.kept hgr (.inr (fun he => by have := (hlt g he).1; omega)), h.ku.far (by simp; omega) _, h.kf.far (by simp; omega) _, h.kn.far (by simp; omega) _, h.kr.far (by simp; omega) _,
    h.bw.setCell (by simp; omega) _, by have := h.hsz; simp; omega, h.s1, h.s2, h.s3, h.s4⟩
theorem OfSt.setH {w wr : World} {n l c : Nat} {A : Option Addr} {g gh bx bf : Nat} {up home tr : List Int} {vt vf : Value} (h : OfSt w wr n l c A g gh bx bf up home tr vt vf) (j : Nat) (u : Int) : OfSt w (wr.setCell ⟨gh, j, none⟩ (.int .i64 u)) n l c A g gh bx bf up (home.set j u) tr vt vf := by
  have := h.s1; have := h.s2; have := h.s3; have := h.s4
  have ho := (h.oh.stored j (.int .i64 u)).1
  have hgr : wr.grownBy (wr.setCell ⟨gh, j, none⟩ (.int .i64 u)) (some gh) := (h.oh.stored j (.int .i64 u)).2
  have hlt := h.ot.lt
  rw [cellsI_set] at ho
  exact ⟨h.ou.kept hgr (.inr (by simp [Value.ownBlock]; omega)), ho, h.ot.kept hgr (.inr (fun he => by have := (hlt gh he).1; omega)), h.ku.far (by simp; omega) _, h.kf.far (by simp; omega) _, h.kn.far (by simp; omega) _, h.kr.far (by simp; omega) _,
    h.bw.setCell (by simp; omega) _, by have := h.hsz; simp; omega, h.s1, h.s2, h.s3, h.s4⟩

theorem own_mono {w : World} {base base' : Nat} {e : TypeId} {size n : Nat} {v : Value} {xs : List Value} (h : w.ownsRow base e size v n xs) (hb : base' ≤ base) : w.ownsRow base' e size v n xs := by
  refine ⟨h.1, ?_⟩
  rcases h.2 with hn | ⟨g, cap, cur, rfl, h1, h2⟩
  · exact .inl hn
  · exact .inr ⟨g, cap, cur, rfl, by omega, h2⟩
/-- what forest.Of answers of a sound net: the two lists, in memory of their own -/
def OfOut (w : World) (n : Nat) (ars : List ArcV) (e : Ending) (w' : World) : Prop :=
  ∃ A c gh, e = .returned (.tuple #[.agg #[.slice A (treeF n ars).length c, .slice (some ⟨gh, 0, none⟩) n n], .int .i64 0]) ∧ w.heap.size ≤ gh ∧ w'.ownsRow (gh + 1) 3 1 (.slice A (treeF n ars).length c) (treeF n ars).length (cellsI (treeF n ars)) ∧
    w'.ownsRow gh 3 1 (.slice (some ⟨gh, 0, none⟩) n n) n (cellsI (homeF n ars)) ∧ Below w.heap.size w w'

set_option maxRecDepth 100000 in
set_option maxHeartbeats 4000000 in
theorem of_walk (n : Nat) (ars : List ArcV) (A : Option Addr) (l c : Nat) (w : World) (hl : ars.length = l) (hx : ∀ a ∈ ars, a.fit) (hr : Rd w w.heap.size A (cellsA ars)) (hm : l ≤ maxLen) (hc : checkF n ars = 0) :
    Calls Tryd.prog 18 #[.agg #[.int .i64 n, .slice A l c]] w (OfOut w n ars) := by
  obtain ⟨i0, hi, hz0, hz1, hz2⟩ := info_parts info_int
  have hn1 : 1 ≤ n ∧ n ≤ 32 := by
    unfold checkF at hc
    split at hc
    · cases hc
    · omega
  have hl96 : l ≤ 96 := by
    unfold checkF at hc
    rw [if_neg (by omega)] at hc
    split at hc
    · cases hc
    · omega
  have harcs : arcsF n ars = 0 := by
    unfold checkF at hc
    rw [if_neg (by omega)] at hc
    split at hc
    · cases hc
    · exact hc
  go_enter Tryd.func18, Tryd.ntmps18
  have hb0 : ∀ o o', Below w.heap.size w ((w.alloc o).alloc o') := fun o o' => ((Below.refl _ _).alloc (Nat.le_refl _) o).alloc (by simp) o'
  go_wp2_with fail
  refine (check_any n ars A l c _ hl hx ((hr.below (hb0 _ _) (Nat.le_refl _)).more (by simp; omega)) hm).mono ?_; rintro e w1 ⟨rfl, hb1⟩
  rw [hc]
  have bz : ((w.alloc (.cells #[.int .i64 n, .slice A l c] 30)).alloc (.cells #[.slice none 0 0, .slice none 0 0] 70)).heap.size = w.heap.size + 1 + 1 := by simp
  have bw1 : Below w.heap.size w w1 := (hb0 _ _).trans (hb1.mono (by rw [bz]; omega))
  have kn1 : Blk w1 w.heap.size 30 #[.int .i64 n, .slice A l c] := ((Blk.new w _ rfl _ _).alloc _).below hb1 (by rw [bz]; omega)
  have kr1 : Blk w1 (w.heap.size + 1) 70 #[.slice none 0 0, .slice none 0 0] := (Blk.new (w.alloc (.cells #[.int .i64 n, .slice A l c] 30)) _ (by simp) _ _).below hb1 (by rw [bz]; omega)
  have s1 := hb1.size
  rw [bz] at s1
  clear hb1 bz hb0
  have n0 := kn1.cell 0
  simp at n0
  go_wp2_with (at_make; refine wpList_make_full _ rfl _ _ 27 rfl w1.heap.size 3 i0 (.int .i64 0) 1 Tryd.underlying27 hi hz0 hz1 _ _ _ _ n rfl rfl (by omega) (by omega) (by rw [hz2]; omega) (by unfold maxLen; omega) (by simp) ?_)
  intro w2 o2 g2
  have hmade : (madeCells #[Value.int .i64 0] n).toList = cellsI (List.replicate n 0) := by
    have := madeCells_int n
    simpa [Value.cells] using this
  rw [hmade] at o2
  have b2 : Below w.heap.size w w2 := bw1.grown g2 bw1.size (fun k hk => by cases hk)
  have kn2 := kn1.grown g2 (by simp)
  have kr2 := kr1.grown g2 (by simp)
  have s2 := g2.size
  obtain ⟨g, hg⟩ : ∃ g, w1.heap.size = g := ⟨_, rfl⟩
  rw [hg] at o2 s1 s2 ⊢
  clear g2 hmade kn1 kr1 bw1 n0 hg
  obtain ⟨bx, hbx⟩ : ∃ bx, w2.heap.size = bx := ⟨_, rfl⟩
  have hgl := own_lt o2
  rw [hbx] at hgl s2
  have kn3 := kn2.alloc (.cells #[.slice (some ⟨g, 0, none⟩) n n] 27)
  have kr3 := kr2.alloc (.cells #[.slice (some ⟨g, 0, none⟩) n n] 27)
  have ku3 := Blk.new w2 bx hbx.symm 27 #[.slice (some ⟨g, 0, none⟩) n n]
  have o3 := o2.alloc (.cells #[.slice (some ⟨g, 0, none⟩) n n] 27)
  have b3 := b2.alloc b2.size (.cells #[.slice (some ⟨g, 0, none⟩) n n] 27)
  go_wp2
  clear kn2 kr2 o2 b2
  go_loopw [25] (fun i wr => ∃ k : Nat, k ≤ n ∧ i = .int .i64 k ∧ wr.ownsRow g 3 1 (.slice (some ⟨g, 0, none⟩) n n) n (cellsI (selfs k ++ List.replicate (n - k) 0)) ∧ Blk wr bx 27 #[.slice (some ⟨g, 0, none⟩) n n] ∧
    Blk wr w.heap.size 30 #[.int .i64 n, .slice A l c] ∧ Blk wr (w.heap.size + 1) 70 #[.slice none 0 0, .slice none 0 0] ∧ Below w.heap.size w wr) (fun i _ => n - (intOf i).toNat)
  case atStart => exact ⟨0, by omega, rfl, o3, ku3, kn3, kr3, b3⟩
  case round =>
    clear o3 ku3 kn3 kr3 b3 hbx
    obtain ⟨k, hk, rfl, o3, ku3, kn3, kr3, b3⟩ := hrel
    have u0 := ku3.cell 0
    simp at u0
    by_cases hlt : k < n
    · have hl3 : (selfs k ++ List.replicate (n - k) (0 : Int)).length = n := by simp [selfs_length]; omega
      obtain ⟨o, hoo⟩ : ∃ o, (selfs k ++ List.replicate (n - k) (0 : Int))[k]? = some o := ⟨_, List.getElem?_eq_getElem (by omega)⟩
      have hco := o3.cellAt k (by omega)
      rw [show (cellsI (selfs k ++ List.replicate (n - k) (0 : Int)))[k]? = some (.int .i64 o) by simp only [cellsI, List.getElem?_map, hoo]; rfl] at hco
      have fro := o3.frozenAt k
      have o4 := (o3.stored k (.int .i64 k)).1
      rw [cellsI_set, selfs_next n k hlt] at o4
      have m1 := ku3.far (p := ⟨g, k, none⟩) (by simp; omega) (.int .i64 k)
      have m2 := kn3.far (p := ⟨g, k, none⟩) (by simp; omega) (.int .i64 k)
      have m3 := kr3.far (p := ⟨g, k, none⟩) (by simp; omega) (.int .i64 k)
      have m4 := b3.setCell (p := ⟨g, k, none⟩) (by simp; omega) (.int .i64 k)
      clear o3 ku3 kn3 kr3 b3 hoo
      go_wp2
      go_roundw
      case rel => exact ⟨k + 1, by omega, by go_num, o4, m1, m2, m3, m4⟩
      case measure => simp [intOf]; omega
    · obtain rfl : n = k := by omega
      have o4 : wr.ownsRow g 3 1 (.slice (some ⟨g, 0, none⟩) n n) n (cellsI (selfs n)) := by simpa using o3
      clear o3
      have n0 := kn3.cell 0
      simp at n0
      go_wp2_with (at_make; refine wpList_make_full _ rfl _ _ 27 rfl wr.heap.size 3 i0 (.int .i64 0) 1 Tryd.underlying27 hi hz0 hz1 _ _ _ _ n rfl rfl (by omega) (by omega) (by rw [hz2]; omega) (by unfold maxLen; omega) (by simp) ?_)
      intro w5 o5 g5
      have hmade : (madeCells #[Value.int .i64 0] n).toList = cellsI (List.replicate n 0) := by
        have := madeCells_int n
        simpa [Value.cells] using this
      rw [hmade] at o5
      have b5 := b3.grown g5 b3.size (fun k hk => by cases hk)
      have kn5 := kn3.grown g5 (by simp)
      have kr5 := kr3.grown g5 (by simp)
      have ku5 := ku3.grown g5 (by simp)
      have ou5 := o4.kept g5 (by simp [Value.ownBlock])
      have s5 := g5.size
      have hbxl := ku3.lt
      obtain ⟨gh, hgh⟩ : ∃ gh, wr.heap.size = gh := ⟨_, rfl⟩
      rw [hgh] at o5 s5 hbxl ⊢
      clear g5 hmade kn3 kr3 ku3 b3 o4 n0 u0 hgh
      have hghl := own_lt o5
      obtain ⟨bf, hbf⟩ : ∃ bf, w5.heap.size = bf := ⟨_, rfl⟩
      have kf6 := Blk.new w5 bf hbf.symm 70 #[.slice none 0 0, .slice (some ⟨gh, 0, none⟩) n n]
      have kn6 := kn5.alloc (.cells #[.slice none 0 0, .slice (some ⟨gh, 0, none⟩) n n] 70)
      have kr6 := kr5.alloc (.cells #[.slice none 0 0, .slice (some ⟨gh, 0, none⟩) n n] 70)
      have ku6 := ku5.alloc (.cells #[.slice none 0 0, .slice (some ⟨gh, 0, none⟩) n n] 70)
      have ou6 := ou5.alloc (.cells #[.slice none 0 0, .slice (some ⟨gh, 0, none⟩) n n] 70)
      have oh6 := o5.alloc (.cells #[.slice none 0 0, .slice (some ⟨gh, 0, none⟩) n n] 70)
      have b6 := b5.alloc b5.size (.cells #[.slice none 0 0, .slice (some ⟨gh, 0, none⟩) n n] 70)
      have hsz6 : (w5.alloc (.cells #[.slice none 0 0, .slice (some ⟨gh, 0, none⟩) n n] 70)).heap.size = bf + 1 := by simp [hbf]
      obtain ⟨w6, hw6⟩ : ∃ w6, w5.alloc (.cells #[.slice none 0 0, .slice (some ⟨gh, 0, none⟩) n n] 70) = w6 := ⟨_, rfl⟩
      rw [hw6] at kf6 kn6 kr6 ku6 ou6 oh6 b6 hsz6
      rw [hbf] at hghl s5
      have n1 := kn6.cell 1
      simp at n1
      have S6 : OfSt w w6 n l c A g gh bx bf (selfs n) (List.replicate n 0) [] (.slice none 0 0) (.slice none 0 0) := ⟨ou6, oh6, World.ownsRow_nil _ _ _ _, ku6, kf6, kn6, kr6, b6, by omega, by omega, hgl, hbxl, hghl⟩
      clear kn5 kr5 ku5 ou5 o5 b5 ou6 oh6 ku6 kf6 kn6 kr6 b6 hsz6
      go_wp2
      clear hw6 hbf n1 s1 s2 s5 hgl hbxl hghl hlt hk w5 w2 w1
      go_loopw [41] (fun i wr => ∃ (k : Nat) (up tr : List Int) (vt : Value), k ≤ l ∧ i = .int .i64 k ∧ up.length = n ∧ Good up ∧ tr.length ≤ k ∧ OfSt w wr n l c A g gh bx bf up (List.replicate n 0) tr vt vt ∧ Hid (forestGo 0 (selfs n) [] ars = forestGo k up tr (ars.drop k))) (fun i _ => l - (intOf i).toNat)
      case atStart => exact ⟨0, selfs n, [], .slice none 0 0, Nat.zero_le _, rfl, selfs_length n, selfs_good n, Nat.le_refl _, S6, rfl⟩
      case round =>
        clear S6 w6
        obtain ⟨k, up, tr, vt, hk, rfl, hul, hgood, htl, S, He⟩ := hrel
        by_cases hkl : k < l
        · obtain ⟨b, off, a, rfl, hbl, hfa, c0, c1, c2, c3, c4, hd, hat⟩ := (hr.below S.bw (Nat.le_refl _)).arc (k := k) hx (by omega)
          obtain ⟨q1, q2, q3, q4⟩ := arcs_ok n ars harcs a (List.mem_of_getElem? hat.out)
          obtain ⟨fx, hfx⟩ : ∃ fx : Nat, a.f = fx := ⟨a.f.toNat, by omega⟩
          obtain ⟨tx, htx⟩ : ∃ tx : Nat, a.t = tx := ⟨a.t.toNat, by omega⟩
          have Hst : Hid (forestGo 0 (selfs n) [] ars = if root up fx = root up tx then forestGo (k + 1) up tr (ars.drop (k + 1)) else forestGo (k + 1) (up.set (max (root up fx) (root up tx)) (min (root up fx) (root up tx) : Nat)) (tr ++ [(k : Int)]) (ars.drop (k + 1))) := by
            unfold Hid; rw [He.out, hd.out, forestGo, hfx, htx]; rfl
          have r1 := root_le up fx
          have r2 := root_le up tx
          rw [hfx] at c0 q1 q2
          rw [htx] at c1 q3 q4
          clear hd hat He hfx htx
          obtain ⟨W1, hW1⟩ : ∃ W1, wr.alloc (.cells #[.int .i64 fx, .int .i64 tx, .int .i64 a.g, .int .i64 a.k, .int .i64 a.s] 66) = W1 := ⟨_, rfl⟩
          have ka1 : Blk W1 wr.heap.size 66 #[.int .i64 fx, .int .i64 tx, .int .i64 a.g, .int .i64 a.k, .int .i64 a.s] := hW1 ▸ Blk.new wr _ rfl _ _
          have S1 : OfSt w W1 n l c (some ⟨b, off, none⟩) g gh bx bf up (List.replicate n 0) tr vt vt := hW1 ▸ S.alloc _
          have d0 := ka1.cell 0
          have d1 := ka1.cell 1
          have u0 := S1.ku.cell 0
          simp at d0 d1 u0
          have ru := rd_of_own S1.ou
          clear S
          go_wp2
          go_quiet ((first | (go_at_call_of 39 (Value.int .i64 (fx : Int)); exact quiet_left (find_any up fx _ n n _ bx _ u0 hul ru hgood (by omega) (by omega))) | (go_at_call_of 39 (Value.int .i64 (tx : Int)); exact quiet_left (find_any up tx _ n n _ bx _ u0 hul ru hgood (by omega) (by omega)))))
          clear c0 c1 c2 c3 c4 d0 d1 u0 ru ka1 hW1
          have S2 := S1.drawn nq
          generalize W1.drewN nq = W2 at S2 ⊢
          clear S1 W1
          have hf2 := S2.kf.cell 0
          have hff := S2.kf.frozen 0
          simp at hf2
          by_cases hrr : root up fx = root up tx
          · have Hst2 : Hid (forestGo 0 (selfs n) [] ars = forestGo (k + 1) up tr (ars.drop (k + 1))) := by unfold Hid; rw [Hst.out, if_pos hrr]
            rw [hrr]
            clear Hst hrr
            go_wp2
            go_roundw
            case rel => exact ⟨k + 1, up, tr, vt, by omega, by go_num, hul, hgood, by omega, S2, Hst2⟩
            case measure => simp [intOf]; omega
          · have Hst2 : Hid (forestGo 0 (selfs n) [] ars = forestGo (k + 1) (up.set (max (root up fx) (root up tx)) (min (root up fx) (root up tx) : Nat)) (tr ++ [(k : Int)]) (ars.drop (k + 1))) := by unfold Hid; rw [Hst.out, if_neg hrr]
            clear Hst
            generalize root up fx = rx at *
            generalize root up tx = ry at *
            have hne : ((rx : Int) != (ry : Int)) = true := by simp; omega
            go_wp2_with (at_builtin; refine wpList_append_rd _ rfl _ _ 27 rfl (bf + 1) 3 i0 (.int .i64 0) 1 8 Tryd.underlying27 hi hz0 hz1 hz2 rfl (by decide) vt tr.length (cellsI tr) rfl (S2.ot.alloc _) (W2.heap.size + 1) (some ⟨W2.heap.size, 0, none⟩) 1 1 (cellsI [(k : Int)]) rfl rfl (rd_alloc W2 W2.heap.size rfl 3 (cellsI [(k : Int)])) (cellsI_one [(k : Int)]) (by unfold maxLen; omega) (by omega) (by have := S2.hsz; simp; omega) ?_)
            intro vt' W3 o3 g3 _
            obtain ⟨A3, c3, rfl, hc3⟩ := own_slice o3
            have S3 : OfSt w W3 n l c (some ⟨b, off, none⟩) g gh bx bf up (List.replicate n 0) (tr ++ [(k : Int)]) (.slice A3 (tr.length + 1) c3) vt := (S2.alloc _).grown g3 (by simpa [cellsI] using o3)
            clear S2 o3 g3 hf2 hff
            have hf3 := S3.kf.cell 0
            have hff3 := S3.kf.frozen 0
            simp at hf3
            have S4 := S3.setF (.slice A3 (tr.length + 1) c3)
            have hu4 := S4.ku.cell 0
            simp at hu4
            rcases Nat.lt_or_gt_of_ne hrr with hlt | hgt
            · have S5 := S4.setU ry (rx : Int)
              have hst4 := S4.ou.cellAt ry (by omega)
              have hfr4 := S4.ou.frozenAt ry
              obtain ⟨o, hoo⟩ : ∃ o, up[ry]? = some o := ⟨_, List.getElem?_eq_getElem (by omega)⟩
              rw [show (cellsI up)[ry]? = some (.int .i64 o) by simp only [cellsI, List.getElem?_map, hoo]; rfl] at hst4
              have hg5 := good_set up ry rx hgood (by omega)
              have Hst3 : Hid (forestGo 0 (selfs n) [] ars = forestGo (k + 1) (up.set ry (rx : Nat)) (tr ++ [(k : Int)]) (ars.drop (k + 1))) := by
                unfold Hid; rw [Hst2.out, Nat.max_eq_right (by omega), Nat.min_eq_left (by omega)]
              have hmx : max (rx : Int) (ry : Int) = ry := by omega
              have hmn : min (rx : Int) (ry : Int) = rx := by omega
              clear Hst2 hoo hrr S3 S4
              go_wp2
              go_roundw
              case rel => exact ⟨k + 1, _, _, _, by omega, by go_num, by simp [hul], hg5, by simp; omega, S5, Hst3⟩
              case measure => simp [intOf]; omega
            · have S5 := S4.setU rx (ry : Int)
              have hst4 := S4.ou.cellAt rx (by omega)
              have hfr4 := S4.ou.frozenAt rx
              obtain ⟨o, hoo⟩ : ∃ o, up[rx]? = some o := ⟨_, List.getElem?_eq_getElem (by omega)⟩
              rw [show (cellsI up)[rx]? = some (.int .i64 o) by simp only [cellsI, List.getElem?_map, hoo]; rfl] at hst4
              have hg5 := good_set up rx ry hgood (by omega)
              have Hst3 : Hid (forestGo 0 (selfs n) [] ars = forestGo (k + 1) (up.set rx (ry : Nat)) (tr ++ [(k : Int)]) (ars.drop (k + 1))) := by
                unfold Hid; rw [Hst2.out, Nat.max_eq_left (by omega), Nat.min_eq_right (by omega)]
              have hmx : max (rx : Int) (ry : Int) = rx := by omega
              have hmn : min (rx : Int) (ry : Int) = ry := by omega
              clear Hst2 hoo hrr S3 S4
              go_wp2
              go_roundw
              case rel => exact ⟨k + 1, _, _, _, by omega, by go_num, by simp [hul], hg5, by simp; omega, S5, Hst3⟩
              case measure => simp [intOf]; omega
        · obtain rfl : l = k := by omega
          have Hup : Hid (upF n ars = up ∧ treeF n ars = tr) := by
            have hd : ars.drop l = [] := List.drop_eq_nil_of_le (by omega)
            unfold Hid upF treeF
            rw [He.out, hd]
            exact ⟨rfl, rfl⟩
          clear He
          have f1 := S.kf.cell 1
          simp at f1
          go_wp2
          go_loopw [75] (fun i wx => ∃ k : Nat, k ≤ n ∧ i = .int .i64 k ∧ OfSt w wx n l c A g gh bx bf up (rootsK up k ++ List.replicate (n - k) 0) tr vt vt) (fun i _ => n - (intOf i).toNat)
          case atStart => exact ⟨0, by omega, rfl, by simpa [rootsK] using S⟩
          case round =>
            clear S f1
            obtain ⟨k, hk3, rfl, S⟩ := hrel
            by_cases hlt : k < n
            · have hl3 : (rootsK up k ++ List.replicate (n - k) (0 : Int)).length = n := by simp [rootsK]; omega
              obtain ⟨o, hoo⟩ : ∃ o, (rootsK up k ++ List.replicate (n - k) (0 : Int))[k]? = some o := ⟨_, List.getElem?_eq_getElem (by omega)⟩
              have hco := S.oh.cellAt k (by omega)
              rw [show (cellsI (rootsK up k ++ List.replicate (n - k) (0 : Int)))[k]? = some (.int .i64 o) by simp only [cellsI, List.getElem?_map, hoo]; rfl] at hco
              have fro := S.oh.frozenAt k
              have S5 := (S.drawn 1).setH k (root up k : Nat)
              rw [rootsK_next up n k hlt] at S5
              have f1 := S.kf.cell 1
              have u0 := S.ku.cell 0
              simp at f1 u0
              have ru := rd_of_own S.ou
              clear hoo S
              go_wp2
              refine wp_region_still_tail 7 (by kernel_rfl) (by kernel_rfl) ?_
              simp only [List.take_succ_cons, List.take_zero, List.drop_succ_cons, List.drop_zero]
              change wpStill _ _ (wr.drewN 1) _ _ _
              have hw0 : ∀ a, (wr.drewN 1).cell? a = wr.cell? a := fun _ => rfl
              have hw1 : ∀ a, (wr.drewN 1).frozen? a = wr.frozen? a := fun _ => rfl
              repeat still_step
              still_call ((find_any up k _ n n _ bx (wr.drewN 1) u0 hul ru hgood (by omega) (by omega)).mono fun _ _ ⟨h, h'⟩ => ⟨h, h'.symm⟩)
              repeat still_step
              refine wpStill_nil ?_
              go_wp2
              go_roundw
              case rel => exact ⟨k + 1, by omega, by go_num, S5⟩
              case measure => simp [intOf]; omega
            · obtain rfl : k = n := by omega
              obtain ⟨A3, c3, rfl, hc3⟩ := own_slice S.ot
              have f1 := S.kf.cell 1
              have f0 := S.kf.cell 0
              have r0 := S.kr.cell 0
              have r1 := S.kr.cell 1
              simp at f0 f1 r0 r1
              have z0 := S.kr.frozen 0
              have z1 := S.kr.frozen 1
              have S7 := S.kr.set 0 (.slice A3 tr.length c3)
              have S8 := S7.set 1 (.slice (some ⟨gh, 0, none⟩) k k)
              have t0 := S8.cell 0
              have t1 := S8.cell 1
              have hs2 := S.s2
              have hs3 := S.s3
              have hs1 := S.s1
              have hs4 := S.s4
              have ot := own_set (own_set S.ot S.kr (by decide) 0 (.slice A3 tr.length c3)) S7 (by decide) 1 (.slice (some ⟨gh, 0, none⟩) k k)
              have oh := own_set (own_set S.oh S.kr (by decide) 0 (.slice A3 tr.length c3)) S7 (by decide) 1 (.slice (some ⟨gh, 0, none⟩) k k)
              have bw := (S.bw.setCell (p := ⟨w.heap.size + 1, 0, none⟩) (by simp) (.slice A3 tr.length c3)).setCell (p := ⟨w.heap.size + 1, 1, none⟩) (by simp) (.slice (some ⟨gh, 0, none⟩) k k)
              have ot' := own_mono (base' := gh + 1) ot (by omega)
              simp at t0 t1
              have oh' : World.ownsRow ((wr.setCell ⟨w.heap.size + 1, 0, none⟩ (.slice A3 tr.length c3)).setCell ⟨w.heap.size + 1, 1, none⟩ (.slice (some ⟨gh, 0, none⟩) k k)) gh 3 1 (.slice (some ⟨gh, 0, none⟩) k k) k (cellsI (rootsK up k)) := by simpa using oh
              clear S7 S8 S ot oh
              go_wp2
              refine bodyPost_ret (v := .tuple #[.agg #[.slice A3 tr.length c3, .slice (some ⟨gh, 0, none⟩) k k], .int .i64 0]) (by simp [results, Tryd.results18, go_sem, t0, t1]) rfl ?_
              have e1 := Hup.out.1
              have e2 := Hup.out.2
              have e3 : homeF k ars = rootsK up k := by unfold homeF; rw [e1]; rfl
              unfold OfOut
              rw [e2, e3]
              exact ⟨A3, c3, gh, rfl, by omega, ot', oh', bw⟩

set_option maxRecDepth 100000 in
/-- what forest.Of answers of a net that is not sound -/
theorem of_bad (n : Int) (ars : List ArcV) (A : Option Addr) (l c : Nat) (w : World) (hl : ars.length = l) (hx : ∀ a ∈ ars, a.fit) (hr : Rd w w.heap.size A (cellsA ars)) (hm : l ≤ maxLen) (hc : checkF n ars ≠ 0) :
    Calls Tryd.prog 18 #[.agg #[.int .i64 n, .slice A l c]] w fun e w' => e = .returned (.tuple #[.agg #[.slice none 0 0, .slice none 0 0], .int .i64 (checkF n ars)]) ∧ Below w.heap.size w w' := by
  have hb0 : ∀ o o', Below w.heap.size w ((w.alloc o).alloc o') := fun o o' => ((Below.refl _ _).alloc (Nat.le_refl _) o).alloc (by simp) o'
  obtain ⟨q, hq⟩ : ∃ q, checkF n ars = q := ⟨_, rfl⟩
  rw [hq] at hc
  have hne : (q != 0) = true := by simpa using hc
  have Hq := Lib.hid hq
  clear hq
  rw [Hq.out]
  go_enter Tryd.func18, Tryd.ntmps18
  go_wp2_with fail
  refine (check_any n ars A l c _ hl hx ((hr.below (hb0 _ _) (Nat.le_refl _)).more (by simp; omega)) hm).mono ?_; rintro e w1 ⟨rfl, hb1⟩
  rw [Hq.out]
  have bz : ((w.alloc (.cells #[.int .i64 n, .slice A l c] 30)).alloc (.cells #[.slice none 0 0, .slice none 0 0] 70)).heap.size = w.heap.size + 1 + 1 := by simp
  have bw1 : Below w.heap.size w w1 := (hb0 _ _).trans (hb1.mono (by rw [bz]; omega))
  have kr1 : Blk w1 (w.heap.size + 1) 70 #[.slice none 0 0, .slice none 0 0] := (Blk.new (w.alloc (.cells #[.int .i64 n, .slice A l c] 30)) _ (by simp) _ _).below hb1 (by rw [bz]; omega)
  have bw2 := (bw1.setCell (p := ⟨w.heap.size + 1, 0, none⟩) (by simp) (.slice none 0 0)).setCell (p := ⟨w.heap.size + 1, 1, none⟩) (by simp) (.slice none 0 0)
  have r0 := kr1.cell 0
  have r1 := kr1.cell 1
  have z0 := kr1.frozen 0
  have z1 := kr1.frozen 1
  have t0 := ((kr1.set 0 (.slice none 0 0)).set 1 (.slice none 0 0)).cell 0
  have t1 := ((kr1.set 0 (.slice none 0 0)).set 1 (.slice none 0 0)).cell 1
  simp at r0 r1 t0 t1
  clear hb1 bz hb0 kr1
  go_wp2
  exact bodyPost_ret (v := .tuple #[.agg #[.slice none 0 0, .slice none 0 0], .int .i64 q]) (by simp [results, Tryd.results18, go_sem, t0, t1]) rfl ⟨rfl, bw2⟩
end Go.Proofs.YtpmlljbebdidgaaDoor
/-
  The plain law of forests: a walk that never turns about on the spot is the only one from its start to its end.
-/
namespace Go.Proofs.YtpmlljbebdidgaaDoor

/-- an edge: its number, its two ends -/
structure Edg where
  i : Nat
  f : Nat
  t : Nat
/-- a step: an edge's number; true: from its end to its start -/
abbrev Stp := Nat × Bool
def stepOk (T : List Edg) (u v : Nat) (s : Stp) : Prop := ∃ e ∈ T, e.i = s.1 ∧ if s.2 = true then v = e.f ∧ u = e.t else u = e.f ∧ v = e.t
def Walk (T : List Edg) : Nat → List Stp → Nat → Prop
  | u, [], v => u = v
  | u, s :: p, v => ∃ m, stepOk T u m s ∧ Walk T m p v
def Red : List Stp → Prop
  | [] => True
  | [_] => True
  | s :: s' :: p => s.1 ≠ s'.1 ∧ Red (s' :: p)
def Conn (T : List Edg) (u v : Nat) : Prop := ∃ p, Walk T u p v
/-- newest first: each edge joined what the elder ones did not, under a number of its own -/
def Forest : List Edg → Prop
  | [] => True
  | e :: T => Forest T ∧ (∀ d ∈ T, d.i ≠ e.i) ∧ ¬ Conn T e.f e.t

theorem stepOk.more {T : List Edg} {e : Edg} {u v : Nat} {s : Stp} (h : stepOk T u v s) : stepOk (e :: T) u v s := by
  obtain ⟨d, hd, h1⟩ := h
  exact ⟨d, List.mem_cons_of_mem _ hd, h1⟩
theorem stepOk.turn {T : List Edg} {u v : Nat} {s : Stp} (h : stepOk T u v s) : stepOk T v u (s.1, !s.2) := by
  obtain ⟨d, hd, h1, h2⟩ := h
  refine ⟨d, hd, h1, ?_⟩
  obtain ⟨i, b⟩ := s
  cases b
  · simp at h2 ⊢; exact ⟨h2.1, h2.2⟩
  · simp at h2 ⊢; exact ⟨h2.1, h2.2⟩
theorem Walk.app {T : List Edg} : ∀ {p q : List Stp} {u v x : Nat}, Walk T u p v → Walk T v q x → Walk T u (p ++ q) x
  | [], q, u, v, x, h, h' => by rw [show u = v from h]; exact h'
  | s :: p, q, u, v, x, ⟨m, h1, h2⟩, h' => ⟨m, h1, Walk.app h2 h'⟩
theorem Walk.split {T : List Edg} : ∀ {p q : List Stp} {u x : Nat}, Walk T u (p ++ q) x → ∃ v, Walk T u p v ∧ Walk T v q x
  | [], q, u, x, h => ⟨u, rfl, h⟩
  | s :: p, q, u, x, ⟨m, h1, h2⟩ => by
    obtain ⟨v, a, b⟩ := Walk.split h2
    exact ⟨v, ⟨m, h1, a⟩, b⟩
def turned (p : List Stp) : List Stp := (p.map fun s => (s.1, !s.2)).reverse
theorem turned_cons (s : Stp) (p : List Stp) : turned (s :: p) = turned p ++ [(s.1, !s.2)] := by simp [turned]
theorem Walk.turn {T : List Edg} : ∀ {p : List Stp} {u v : Nat}, Walk T u p v → Walk T v (turned p) u
  | [], u, v, h => (show u = v from h).symm
  | s :: p, u, v, ⟨m, h1, h2⟩ => by
    rw [turned_cons]
    exact (Walk.turn h2).app ⟨u, h1.turn, rfl⟩
theorem Walk.more {T : List Edg} {e : Edg} : ∀ {p : List Stp} {u v : Nat}, Walk T u p v → Walk (e :: T) u p v
  | [], _, _, h => h
  | _ :: _, _, _, ⟨m, h1, h2⟩ => ⟨m, h1.more, Walk.more h2⟩
theorem Conn.refl (T : List Edg) (u : Nat) : Conn T u u := ⟨[], rfl⟩
theorem Conn.symm {T : List Edg} {u v : Nat} (h : Conn T u v) : Conn T v u := by obtain ⟨p, hp⟩ := h; exact ⟨_, hp.turn⟩
theorem Conn.trans {T : List Edg} {u v x : Nat} (h : Conn T u v) (h' : Conn T v x) : Conn T u x := by
  obtain ⟨p, hp⟩ := h
  obtain ⟨q, hq⟩ := h'
  exact ⟨_, hp.app hq⟩
theorem Conn.more {T : List Edg} {e : Edg} {u v : Nat} (h : Conn T u v) : Conn (e :: T) u v := by obtain ⟨p, hp⟩ := h; exact ⟨p, hp.more⟩

/-- without the newest edge the walk is one of the elder edges -/
theorem Walk.less {T : List Edg} {e : Edg} : ∀ {p : List Stp} {u v : Nat}, Walk (e :: T) u p v → (∀ s ∈ p, s.1 ≠ e.i) → Walk T u p v
  | [], _, _, h, _ => h
  | s :: p, _, _, ⟨m, ⟨d, hd, h1, h2⟩, h3⟩, hn => by
    refine ⟨m, ⟨d, ?_, h1, h2⟩, Walk.less h3 fun s' hs' => hn s' (List.mem_cons_of_mem _ hs')⟩
    rcases List.mem_cons.1 hd with rfl | hd
    · exact absurd h1.symm (hn s List.mem_cons_self)
    · exact hd
/-- the first place of a number -/
theorem first_of {i : Nat} : ∀ {p : List Stp}, (∃ s ∈ p, s.1 = i) → ∃ p1 s p2, p = p1 ++ s :: p2 ∧ s.1 = i ∧ ∀ s' ∈ p1, s'.1 ≠ i
  | [], h => by obtain ⟨s, hs, _⟩ := h; cases hs
  | s :: p, h => by
    by_cases hs : s.1 = i
    · exact ⟨[], s, p, rfl, hs, fun _ h => by cases h⟩
    · obtain ⟨s', hs', he⟩ := h
      have : ∃ s ∈ p, s.1 = i := by
        rcases List.mem_cons.1 hs' with rfl | hs'
        · exact absurd he hs
        · exact ⟨s', hs', he⟩
      obtain ⟨p1, s2, p2, hp, h1, h2⟩ := first_of this
      refine ⟨s :: p1, s2, p2, by rw [hp]; rfl, h1, fun s' hs' => ?_⟩
      rcases List.mem_cons.1 hs' with rfl | hs'
      · exact hs
      · exact h2 s' hs'
theorem Red.tail {s : Stp} {p : List Stp} (h : Red (s :: p)) : Red p := by
  cases p with
  | nil => trivial
  | cons s' p => exact h.2
theorem Red.right {q : List Stp} : ∀ {p : List Stp}, Red (p ++ q) → Red q
  | [], h => h
  | _ :: p, h => Red.right (p := p) (Red.tail h)
theorem Red.left {q : List Stp} : ∀ {p : List Stp}, Red (p ++ q) → Red p
  | [], _ => trivial
  | [_], _ => trivial
  | _ :: s' :: p, h => ⟨h.1, Red.left (p := s' :: p) h.2⟩
theorem Red.glue {s : Stp} {q : List Stp} : ∀ {p : List Stp}, Red (p ++ [s]) → Red (s :: q) → Red (p ++ s :: q)
  | [], _, h => h
  | [_], h, h' => ⟨h.1, h'⟩
  | _ :: s' :: p, h, h' => ⟨h.1, Red.glue (p := s' :: p) h.2 h'⟩
theorem Red.snoc {s : Stp} : ∀ {p : List Stp}, Red p → (∀ q s', p = q ++ [s'] → s'.1 ≠ s.1) → Red (p ++ [s])
  | [], _, _ => trivial
  | [s'], _, h => ⟨h [] s' rfl, trivial⟩
  | a :: s' :: p, h, h' => ⟨h.1, Red.snoc (p := s' :: p) h.2 fun q s2 he => h' (a :: q) s2 (by rw [he]; rfl)⟩
theorem Red.turn : ∀ {p : List Stp}, Red p → Red (turned p)
  | [], _ => trivial
  | [_], _ => trivial
  | s :: s' :: p, h => by
    rw [turned_cons, turned_cons, List.append_assoc]
    refine Red.glue (s := (s'.1, !s'.2)) ?_ ⟨fun he => h.1 he.symm, trivial⟩
    rw [← turned_cons]
    exact Red.turn h.2

/-- an edge's two ways -/
theorem step_ends {T : List Edg} {e : Edg} (hn : ∀ d ∈ T, d.i ≠ e.i) {u v : Nat} {s : Stp} (h : stepOk (e :: T) u v s) (hs : s.1 = e.i) : if s.2 = true then v = e.f ∧ u = e.t else u = e.f ∧ v = e.t := by
  obtain ⟨d, hd, h1, h2⟩ := h
  rcases List.mem_cons.1 hd with rfl | hd
  · exact h2
  · exact absurd (h1.trans hs) (hn d hd)
/-- only the empty walk comes home; the newest edge is gone along once at most -/
theorem once {T : List Edg} {e : Edg} (hF : Forest (e :: T)) (hz : ∀ u p, Walk T u p u → Red p → p = []) {u v : Nat} {p1 p2 : List Stp} {s : Stp} (hw : Walk (e :: T) u (p1 ++ s :: p2) v) (hr : Red (p1 ++ s :: p2)) (hs : s.1 = e.i) : ∀ s' ∈ p2, s'.1 ≠ e.i := by
  obtain ⟨_, hn, hc⟩ := hF
  intro s' hs' he
  obtain ⟨q1, s2, q2, rfl, h2, h3⟩ := first_of ⟨s', hs', he⟩
  obtain ⟨x, _, y, hx, hw2⟩ := hw.split
  obtain ⟨z, hq, y2, hz2, _⟩ := hw2.split
  have hq' := hq.less h3
  have e1 := step_ends hn hx hs
  have e2 := step_ends hn hz2 h2
  have hr1 : Red (s :: (q1 ++ s2 :: q2)) := hr.right
  have hr2 : Red q1 := Red.left (Red.tail hr1)
  by_cases hyz : y = z
  · subst hyz
    have := hz y q1 hq' hr2
    subst this
    exact hr1.1 (hs.trans h2.symm)
  · have hcon : Conn T y z := ⟨q1, hq'⟩
    split at e1 <;> split at e2
    · exact hyz (by rw [e1.1]; exact absurd (show Conn T e.f e.t by rw [← e1.1, ← e2.2]; exact hcon) hc)
    · exact hyz (by rw [e1.1, e2.1])
    · exact hyz (by rw [e1.2, e2.2])
    · exact hc (by rw [← e1.2, ← e2.1]; exact hcon.symm)
theorem uniq : ∀ {T : List Edg}, Forest T → ∀ {u v : Nat} {p q : List Stp}, Walk T u p v → Walk T u q v → Red p → Red q → p = q
  | [], _, u, v, p, q, hp, hq, _, _ => by
    have no : ∀ {p : List Stp} {u v : Nat}, Walk [] u p v → p = [] := by
      intro p u v h
      cases p with
      | nil => rfl
      | cons s p => obtain ⟨m, ⟨d, hd, _⟩, _⟩ := h; cases hd
    rw [no hp, no hq]
  | e :: T, hF, u, v, p, q, hp, hq, hpr, hqr => by
    have hF' := hF
    obtain ⟨hT, hn, hc⟩ := hF'
    have ih := @uniq T hT
    have hz : ∀ u p, Walk T u p u → Red p → p = [] := fun u p h hr => ih h (show Walk T u [] u from rfl) hr trivial
    -- a walk with the newest edge, taken apart
    have apart : ∀ {p : List Stp} {u v : Nat}, Walk (e :: T) u p v → Red p → (∃ s ∈ p, s.1 = e.i) → ∃ p1 s p2 x y, p = p1 ++ s :: p2 ∧ s.1 = e.i ∧ Walk T u p1 x ∧ Walk T y p2 v ∧ Red p1 ∧ Red p2 ∧ (if s.2 = true then y = e.f ∧ x = e.t else x = e.f ∧ y = e.t) := by
      intro p u v hw hr hs
      obtain ⟨p1, s, p2, rfl, h1, h2⟩ := first_of hs
      have h3 := once hF hz hw hr h1
      obtain ⟨x, hx, y, hy, hw2⟩ := hw.split
      exact ⟨p1, s, p2, x, y, rfl, h1, hx.less h2, hw2.less h3, Red.left hr, Red.tail (Red.right hr), step_ends hn hy h1⟩
    by_cases h1 : ∃ s ∈ p, s.1 = e.i
    · by_cases h2 : ∃ s ∈ q, s.1 = e.i
      · obtain ⟨p1, s, p2, x, y, rfl, a1, a2, a3, a4, a5, a6⟩ := apart hp hpr h1
        obtain ⟨q1, s', q2, x', y', rfl, b1, b2, b3, b4, b5, b6⟩ := apart hq hqr h2
        have hxx : Conn T x x' := Conn.trans (Conn.symm ⟨p1, a2⟩) ⟨q1, b2⟩
        obtain ⟨i, b⟩ := s
        obtain ⟨i', b'⟩ := s'
        simp only at a1 b1 a6 b6
        have hb : b = b' := by
          cases b <;> cases b' <;> simp at a6 b6
          · rfl
          · rw [a6.1, b6.2] at hxx; exact absurd hxx hc
          · rw [a6.2, b6.1] at hxx; exact absurd hxx.symm hc
          · rfl
        subst hb
        have hx : x = x' ∧ y = y' := by
          cases b <;> simp at a6 b6
          · exact ⟨by rw [a6.1, b6.1], by rw [a6.2, b6.2]⟩
          · exact ⟨by rw [a6.2, b6.2], by rw [a6.1, b6.1]⟩
        obtain ⟨rfl, rfl⟩ := hx
        rw [ih a2 b2 a4 b4, ih a3 b3 a5 b5, a1, b1]
      · obtain ⟨p1, s, p2, x, y, rfl, a1, a2, a3, a4, a5, a6⟩ := apart hp hpr h1
        have hq' := hq.less (fun s hs he => h2 ⟨s, hs, he⟩)
        have hxy : Conn T x y := Conn.trans (Conn.symm ⟨p1, a2⟩) (Conn.trans ⟨q, hq'⟩ (Conn.symm ⟨p2, a3⟩))
        split at a6
        · rw [a6.1, a6.2] at hxy; exact absurd hxy.symm hc
        · rw [a6.1, a6.2] at hxy; exact absurd hxy hc
    · by_cases h2 : ∃ s ∈ q, s.1 = e.i
      · obtain ⟨p1, s, p2, x, y, rfl, a1, a2, a3, a4, a5, a6⟩ := apart hq hqr h2
        have hp' := hp.less (fun s hs he => h1 ⟨s, hs, he⟩)
        have hxy : Conn T x y := Conn.trans (Conn.symm ⟨p1, a2⟩) (Conn.trans ⟨p, hp'⟩ (Conn.symm ⟨p2, a3⟩))
        split at a6
        · rw [a6.1, a6.2] at hxy; exact absurd hxy.symm hc
        · rw [a6.1, a6.2] at hxy; exact absurd hxy hc
      · exact ih (hp.less fun s hs he => h1 ⟨s, hs, he⟩) (hq.less fun s hs he => h2 ⟨s, hs, he⟩) hpr hqr
/-- how long a walk can be that never turns about -/
theorem long : ∀ {T : List Edg}, Forest T → ∀ {u v : Nat} {p : List Stp}, Walk T u p v → Red p → p.length < 2 ^ T.length
  | [], _, u, v, p, hp, _ => by
    cases p with
    | nil => simp
    | cons s p => obtain ⟨m, ⟨d, hd, _⟩, _⟩ := hp; cases hd
  | e :: T, hF, u, v, p, hp, hpr => by
    have hF' := hF
    obtain ⟨hT, hn, hc⟩ := hF'
    have ih := @long T hT
    have hz : ∀ u p, Walk T u p u → Red p → p = [] := fun u p h hr => uniq hT h (show Walk T u [] u from rfl) hr trivial
    have e2 : 2 ^ (e :: T).length = 2 ^ T.length + 2 ^ T.length := by rw [List.length_cons, Nat.pow_succ]; omega
    rw [e2]
    by_cases h1 : ∃ s ∈ p, s.1 = e.i
    · obtain ⟨p1, s, p2, rfl, a1, a2⟩ := first_of h1
      have h3 := once hF hz hp hpr a1
      obtain ⟨x, hx, y, hy, hw2⟩ := hp.split
      have l1 := ih (hx.less a2) (Red.left hpr)
      have l2 := ih (hw2.less h3) (Red.tail (Red.right hpr))
      simp; omega
    · have := ih (hp.less fun s hs he => h1 ⟨s, hs, he⟩) hpr
      omega
/-- the other end of an edge: one for each end -/
theorem other_end : ∀ {T : List Edg}, Forest T → ∀ {u v x : Nat} {s s' : Stp}, stepOk T u v s → stepOk T v x s' → s.1 = s'.1 → x = u
  | [], _, u, v, x, s, s', h, _, _ => by obtain ⟨d, hd, _⟩ := h; cases hd
  | e :: T, hF, u, v, x, s, s', h, h', he => by
    obtain ⟨hT, hn, hc⟩ := hF
    by_cases hs : s.1 = e.i
    · have e1 := step_ends hn h hs
      have e2 := step_ends hn h' (he ▸ hs)
      have hft : e.f ≠ e.t := fun h => hc (h ▸ Conn.refl T _)
      split at e1 <;> split at e2
      · exact absurd (e1.1.symm.trans e2.2) hft
      · rw [e2.2, e1.2]
      · rw [e2.1, e1.1]
      · exact absurd (e2.1.symm.trans e1.2) hft
    · have less : ∀ {u v : Nat} {s : Stp}, stepOk (e :: T) u v s → s.1 ≠ e.i → stepOk T u v s := by
        intro u v s ⟨d, hd, h1, h2⟩ hne
        rcases List.mem_cons.1 hd with rfl | hd
        · exact absurd h1.symm hne
        · exact ⟨d, hd, h1, h2⟩
      exact other_end hT (less h hs) (less h' (he ▸ hs)) he
/-- a node that is come by twice -/
theorem no_twice {T : List Edg} (hF : Forest T) {u v x : Nat} {p q : List Stp} (h1 : Walk T u p x) (h2 : Walk T x q v) (hr : Red (p ++ q)) (he : u = x) : p = [] := by
  subst he
  exact uniq hF h1 (show Walk T u [] u from rfl) (Red.left hr) trivial
/-- connected: joined by a walk that never turns about -/
theorem red_of {T : List Edg} (hF : Forest T) : ∀ (n : Nat) {u v : Nat} {p : List Stp}, p.length ≤ n → Walk T u p v → ∃ q, Walk T u q v ∧ Red q
  | 0, u, v, p, hn, h => by
    obtain rfl : p = [] := List.eq_nil_of_length_eq_zero (by omega)
    exact ⟨[], h, trivial⟩
  | n + 1, u, v, [], _, h => ⟨[], h, trivial⟩
  | n + 1, u, v, s :: p, hn, ⟨m, h1, h2⟩ => by
    obtain ⟨q, hq, hr⟩ := red_of hF n (by simpa using hn) h2
    cases q with
    | nil => exact ⟨[s], ⟨m, h1, hq⟩, trivial⟩
    | cons s' q =>
      by_cases he : s.1 = s'.1
      · obtain ⟨m', h3, h4⟩ := hq
        have := other_end hF h1 h3 he
        subst this
        exact ⟨q, h4, Red.tail hr⟩
      · exact ⟨s :: s' :: q, ⟨m, h1, hq⟩, he, hr⟩
end Go.Proofs.YtpmlljbebdidgaaDoor
/-
  What forest.Of builds is a forest, and its roots tell who is joined to whom.
-/
namespace Go.Proofs.YtpmlljbebdidgaaDoor
open Go.RowKit

theorem conn_cons {T : List Edg} {e : Edg} : ∀ {p : List Stp} {u v : Nat}, Walk (e :: T) u p v → Conn T u v ∨ (Conn T u e.f ∧ Conn T e.t v) ∨ (Conn T u e.t ∧ Conn T e.f v)
  | [], u, v, h => .inl ⟨[], h⟩
  | s :: p, u, v, ⟨m, ⟨d, hd, h1, h2⟩, h3⟩ => by
    have ih := conn_cons h3
    rcases List.mem_cons.1 hd with rfl | hd
    · have hum : (u = d.f ∧ m = d.t) ∨ (u = d.t ∧ m = d.f) := by
        split at h2
        · exact .inr ⟨h2.2, h2.1⟩
        · exact .inl h2
      rcases hum with ⟨rfl, rfl⟩ | ⟨rfl, rfl⟩
      · rcases ih with h | ⟨_, h⟩ | ⟨_, h⟩
        · exact .inr (.inl ⟨Conn.refl _ _, h⟩)
        · exact .inr (.inl ⟨Conn.refl _ _, h⟩)
        · exact .inl h
      · rcases ih with h | ⟨_, h⟩ | ⟨_, h⟩
        · exact .inr (.inr ⟨Conn.refl _ _, h⟩)
        · exact .inl h
        · exact .inr (.inr ⟨Conn.refl _ _, h⟩)
    · have hum : Conn T u m := ⟨[s], m, ⟨d, hd, h1, h2⟩, rfl⟩
      rcases ih with h | ⟨h, h'⟩ | ⟨h, h'⟩
      · exact .inl (hum.trans h)
      · exact .inr (.inl ⟨hum.trans h, h'⟩)
      · exact .inr (.inr ⟨hum.trans h, h'⟩)
theorem conn_new {T : List Edg} {e : Edg} : Conn (e :: T) e.f e.t := ⟨[(e.i, false)], e.t, ⟨e, List.mem_cons_self, rfl, by simp⟩, rfl⟩
theorem conn_iff {T : List Edg} {e : Edg} {u v : Nat} : Conn (e :: T) u v ↔ Conn T u v ∨ (Conn T u e.f ∧ Conn T e.t v) ∨ (Conn T u e.t ∧ Conn T e.f v) := by
  constructor
  · intro ⟨p, hp⟩
    exact conn_cons hp
  · intro h
    rcases h with h | ⟨h, h'⟩ | ⟨h, h'⟩
    · exact h.more
    · exact (h.more.trans conn_new).trans h'.more
    · exact (h.more.trans conn_new.symm).trans h'.more

/-- forest.Of's state: the edges so far; who is joined to whom -/
structure FInv (n : Nat) (ars : List ArcV) (i : Nat) (up tr : List Int) (T : List Edg) : Prop where
  len : up.length = n
  good : Good up
  forest : Forest T
  conn : ∀ u v, u < n → v < n → (root up u = root up v ↔ Conn T u v)
  tree : tr = T.reverse.map fun e => (e.i : Int)
  edge : ∀ e ∈ T, e.i < i ∧ e.f < n ∧ e.t < n ∧ ∃ a, ars[e.i]? = some a ∧ a.f = (e.f : Int) ∧ a.t = (e.t : Int)
  all : ∀ j a, j < i → ars[j]? = some a → root up a.f.toNat = root up a.t.toNat
theorem root_lt {up : List Int} {n v : Nat} (hv : v < n) : root up v < n := by have := root_le up v; omega
theorem selfs_root {n v : Nat} (hv : v < n) : root (selfs n) v = v := by
  rw [root_step]
  have h : ¬ upN (selfs n) v < v := by
    unfold upN
    rw [selfs_at hv]; simp
  rw [if_neg h]
theorem finv_start (n : Nat) (ars : List ArcV) : FInv n ars 0 (selfs n) [] [] := by
  refine ⟨selfs_length n, selfs_good n, trivial, ?_, rfl, (fun _ h => by cases h), (fun _ _ h _ => absurd h (Nat.not_lt_zero _))⟩
  intro u v hu hv
  rw [selfs_root hu, selfs_root hv]
  constructor
  · rintro rfl; exact Conn.refl _ _
  · intro ⟨p, hp⟩
    cases p with
    | nil => exact hp
    | cons s p => obtain ⟨m, ⟨d, hd, _⟩, _⟩ := hp; cases hd
theorem finv_step {n : Nat} {ars : List ArcV} {i : Nat} {up tr : List Int} {T : List Edg} {a : ArcV} (hok : ∀ a ∈ ars, 0 ≤ a.f ∧ a.f < n ∧ 0 ≤ a.t ∧ a.t < n) (h : FInv n ars i up tr T) (ha : ars[i]? = some a) :
    (root up a.f.toNat = root up a.t.toNat → FInv n ars (i + 1) up tr T) ∧
    (root up a.f.toNat ≠ root up a.t.toNat → FInv n ars (i + 1) (up.set (max (root up a.f.toNat) (root up a.t.toNat)) (min (root up a.f.toNat) (root up a.t.toNat) : Nat)) (tr ++ [(i : Int)]) (⟨i, a.f.toNat, a.t.toNat⟩ :: T)) := by
  obtain ⟨h1, h2, h3, h4⟩ := hok a (List.mem_of_getElem? ha)
  constructor
  · intro he
    refine ⟨h.len, h.good, h.forest, h.conn, h.tree, fun e hm => ?_, fun j b hj hb => ?_⟩
    · obtain ⟨x1, x2⟩ := h.edge e hm
      exact ⟨by omega, x2⟩
    · by_cases hji : j = i
      · subst hji
        rw [ha] at hb; cases hb
        exact he
      · exact h.all j b (by omega) hb
  · intro hne
    obtain ⟨x, hx⟩ : ∃ x, a.f.toNat = x := ⟨_, rfl⟩
    obtain ⟨y, hy⟩ : ∃ y, a.t.toNat = y := ⟨_, rfl⟩
    rw [hx, hy] at hne ⊢
    have hxn : x < n := by omega
    have hyn : y < n := by omega
    have rx := root_lt (up := up) hxn
    have ry := root_lt (up := up) hyn
    have hset : ∀ v, v < n → root (up.set (max (root up x) (root up y)) (min (root up x) (root up y) : Nat)) v = if root up v = max (root up x) (root up y) then min (root up x) (root up y) else root up v := by
      intro v hv
      refine root_set up _ _ (by omega) (by rw [h.len]; omega) ?_ ?_ v (by rw [h.len]; exact hv)
      · rcases Nat.lt_or_ge (root up x) (root up y) with hh | hh
        · rw [Nat.max_eq_right (by omega)]; exact root_root up y
        · rw [Nat.max_eq_left (by omega)]; exact root_root up x
      · rcases Nat.lt_or_ge (root up x) (root up y) with hh | hh
        · rw [Nat.min_eq_left (by omega)]; exact root_root up x
        · rw [Nat.min_eq_right (by omega)]; exact root_root up y
    have hsame : ∀ u v, u < n → v < n → (root (up.set (max (root up x) (root up y)) (min (root up x) (root up y) : Nat)) u = root (up.set (max (root up x) (root up y)) (min (root up x) (root up y) : Nat)) v ↔
        root up u = root up v ∨ (root up u = root up x ∧ root up y = root up v) ∨ (root up u = root up y ∧ root up x = root up v)) := by
      intro u v hu hv
      rw [hset u hu, hset v hv]
      generalize root up u = ru
      generalize root up v = rv
      generalize root up x = rx at *
      generalize root up y = ry at *
      split <;> split <;> omega
    refine ⟨by simp [h.len], good_set up _ _ h.good (by omega), ⟨h.forest, fun d hd he => ?_, fun hc => ?_⟩, fun u v hu hv => ?_, ?_, fun e hm => ?_, fun j b hj hb => ?_⟩
    · have := (h.edge d hd).1
      simp only at he; omega
    · exact hne ((h.conn x y hxn hyn).2 hc)
    · rw [hsame u v hu hv, conn_iff]
      simp only
      rw [h.conn u v hu hv, h.conn u x hu hxn, h.conn y v hyn hv, h.conn u y hu hyn, h.conn x v hxn hv]
    · rw [h.tree]; simp
    · rcases List.mem_cons.1 hm with rfl | hm
      · exact ⟨by simp, hxn, hyn, a, ha, by simp only; omega, by simp only; omega⟩
      · obtain ⟨x1, x2⟩ := h.edge e hm
        exact ⟨by omega, x2⟩
    · obtain ⟨g1, g2, g3, g4⟩ := hok b (List.mem_of_getElem? hb)
      rw [hsame _ _ (by omega) (by omega)]
      by_cases hji : j = i
      · subst hji
        rw [ha] at hb; cases hb
        rw [hx, hy]
        exact .inr (.inl ⟨rfl, rfl⟩)
      · exact .inl (h.all j b (by omega) hb)
/-- the end of forest.Of's arcs -/
theorem finv_all {n : Nat} {ars : List ArcV} (hok : ∀ a ∈ ars, 0 ≤ a.f ∧ a.f < n ∧ 0 ≤ a.t ∧ a.t < n) : ∀ (k i : Nat) (up tr : List Int) (T : List Edg), i + k = ars.length → FInv n ars i up tr T →
    ∃ T', FInv n ars ars.length (forestGo i up tr (ars.drop i)).1 (forestGo i up tr (ars.drop i)).2 T'
  | 0, i, up, tr, T, hk, h => by
    obtain rfl : i = ars.length := by omega
    rw [List.drop_eq_nil_of_le (Nat.le_refl _)]
    exact ⟨T, h⟩
  | k + 1, i, up, tr, T, hk, h => by
    have hi : i < ars.length := by omega
    obtain ⟨s1, s2⟩ := finv_step hok h (List.getElem?_eq_getElem hi)
    rw [List.drop_eq_getElem_cons hi, forestGo]
    by_cases he : root up ars[i].f.toNat = root up ars[i].t.toNat
    · rw [if_pos he]
      exact finv_all hok k (i + 1) _ _ _ (by omega) (s1 he)
    · rw [if_neg he]
      exact finv_all hok k (i + 1) _ _ _ (by omega) (s2 he)
theorem finv_end {n : Nat} {ars : List ArcV} (hok : ∀ a ∈ ars, 0 ≤ a.f ∧ a.f < n ∧ 0 ≤ a.t ∧ a.t < n) : ∃ T, FInv n ars ars.length (upF n ars) (treeF n ars) T :=
  finv_all hok ars.length 0 _ _ _ (by omega) (finv_start n ars)
/-- of a sound net -/
theorem checkF_ok {n : Nat} {ars : List ArcV} (hc : checkF n ars = 0) : 1 ≤ n ∧ n ≤ 32 ∧ ars.length ≤ 96 ∧ ∀ a ∈ ars, 0 ≤ a.f ∧ a.f < n ∧ 0 ≤ a.t ∧ a.t < n := by
  unfold checkF at hc
  split at hc
  · cases hc
  · split at hc
    · cases hc
    · exact ⟨by omega, by omega, by omega, arcs_ok n ars hc⟩
theorem homeF_at {n v : Nat} {ars : List ArcV} (hv : v < n) : (homeF n ars)[v]? = some (root (upF n ars) v : Int) := by simp [homeF, hv]
theorem homeF_length (n : Nat) (ars : List ArcV) : (homeF n ars).length = n := by simp [homeF]
/-- what a step of the forest is -/
theorem stepOk_iff {n : Nat} {ars : List ArcV} {up tr : List Int} {T : List Edg} (h : FInv n ars ars.length up tr T) {u v : Nat} {s : Stp} :
    stepOk T u v s ↔ (s.1 : Int) ∈ tr ∧ ∃ a, ars[s.1]? = some a ∧ if s.2 = true then (v : Int) = a.f ∧ (u : Int) = a.t else (u : Int) = a.f ∧ (v : Int) = a.t := by
  constructor
  · intro ⟨e, he, h1, h2⟩
    obtain ⟨_, _, _, a, ha, hf, ht⟩ := h.edge e he
    refine ⟨?_, a, by rw [← h1]; exact ha, ?_⟩
    · rw [h.tree, List.mem_map]
      exact ⟨e, List.mem_reverse.2 he, by rw [h1]⟩
    · rw [hf, ht]
      by_cases hs : s.2 = true
      · rw [if_pos hs] at h2 ⊢; omega
      · rw [if_neg hs] at h2 ⊢; omega
  · intro ⟨hm, a, ha, h2⟩
    rw [h.tree, List.mem_map] at hm
    obtain ⟨e, he, h1⟩ := hm
    have h1' : e.i = s.1 := by omega
    obtain ⟨_, _, _, b, hb, hf, ht⟩ := h.edge e (List.mem_reverse.1 he)
    rw [h1', ha] at hb; cases hb
    refine ⟨e, List.mem_reverse.1 he, h1', ?_⟩
    rw [hf, ht] at h2
    by_cases hs : s.2 = true
    · rw [if_pos hs] at h2 ⊢; omega
    · rw [if_neg hs] at h2 ⊢; omega
end Go.Proofs.YtpmlljbebdidgaaDoor
/-
  The least counts of a forest: plain numbers, no program in sight.
-/
namespace Go.Proofs.YtpmlljbebdidgaaDoor

/-- an edge joins two trees: their counts grow to the least common ones (G, K: the rates by an arc's number) -/
def joinR (G K : Nat → Nat) (s : (Nat → Nat) × (Nat → Nat)) (e : Edg) : (Nat → Nat) × (Nat → Nat) :=
  (fun v => if s.2 v = s.2 e.f then s.1 v * (K e.i * s.1 e.t / Nat.gcd (G e.i * s.1 e.f) (K e.i * s.1 e.t)) else if s.2 v = s.2 e.t then s.1 v * (G e.i * s.1 e.f / Nat.gcd (G e.i * s.1 e.f) (K e.i * s.1 e.t)) else s.1 v,
   fun v => if s.2 v = s.2 e.t then s.2 e.f else s.2 v)
/-- the forest's counts, newest edge first -/
def countsR (G K : Nat → Nat) : List Edg → (Nat → Nat) × (Nat → Nat)
  | [] => (fun _ => 1, id)
  | e :: T => joinR G K (countsR G K T) e
/-- counts solve edges -/
def Solves (G K : Nat → Nat) (T : List Edg) (S : Nat → Nat) : Prop := ∀ e ∈ T, G e.i * S e.f = K e.i * S e.t
structure RInv (G K : Nat → Nat) (T : List Edg) (R P : Nat → Nat) : Prop where
  ev : Solves G K T R
  cls : ∀ u v, P u = P v ↔ Conn T u v
  pos : ∀ v, 1 ≤ R v
  least : ∀ S, Solves G K T S → ∀ u, ∃ m, ∀ v, P v = P u → S v = m * R v
theorem rinv_start (G K : Nat → Nat) : RInv G K [] (fun _ => 1) id where
  ev := fun e h => by cases h
  cls := fun u v => by
    constructor
    · intro h; exact ⟨[], h⟩
    · rintro ⟨p, hp⟩
      cases p with
      | nil => exact hp
      | cons s p => obtain ⟨m, ⟨e, he, _⟩, _⟩ := hp; cases he
  pos := fun _ => Nat.le_refl _
  least := fun S _ u => ⟨S u, fun v hv => by rw [show v = u from hv]; simp⟩
/-- two multiples meet at a common one -/
theorem meet {x y m1 m2 : Nat} (hx : 1 ≤ x) (hy : 1 ≤ y) (h : m1 * x = m2 * y) : ∃ q, m1 = q * (y / Nat.gcd x y) ∧ m2 = q * (x / Nat.gcd x y) := by
  have hd : 0 < Nat.gcd x y := Nat.gcd_pos_of_pos_left _ (by omega)
  obtain ⟨d, hdd⟩ : ∃ d, Nat.gcd x y = d := ⟨_, rfl⟩
  have hc : Nat.gcd (x / d) (y / d) = 1 := by rw [← hdd]; exact Nat.gcd_div_gcd_div_gcd_of_pos_left (by omega)
  have ex : x = d * (x / d) := by rw [← hdd]; exact (Nat.mul_div_cancel' (Nat.gcd_dvd_left x y)).symm
  have ey : y = d * (y / d) := by rw [← hdd]; exact (Nat.mul_div_cancel' (Nat.gcd_dvd_right x y)).symm
  rw [hdd]
  rw [hdd] at hd
  obtain ⟨x', hx'⟩ : ∃ x', x / d = x' := ⟨_, rfl⟩
  obtain ⟨y', hy'⟩ : ∃ y', y / d = y' := ⟨_, rfl⟩
  rw [hx'] at ex hc ⊢
  rw [hy'] at ey hc ⊢
  have h2 : m1 * x' = m2 * y' := by
    rw [ex, ey, Nat.mul_left_comm, Nat.mul_left_comm m2] at h
    exact Nat.eq_of_mul_eq_mul_left hd h
  have hdv : y' ∣ m1 := by
    have h3 : y' ∣ x' * m1 := ⟨m2, by rw [Nat.mul_comm x', h2, Nat.mul_comm]⟩
    exact Nat.Coprime.dvd_of_dvd_mul_left (Nat.Coprime.symm hc) h3
  obtain ⟨q, hq⟩ := hdv
  have hyp : 0 < y' := by
    rcases Nat.eq_zero_or_pos y' with h0 | h0
    · rw [h0] at ey; omega
    · exact h0
  refine ⟨q, by rw [hq, Nat.mul_comm], ?_⟩
  rw [hq, Nat.mul_assoc, Nat.mul_comm m2] at h2
  exact (Nat.eq_of_mul_eq_mul_left hyp h2).symm
theorem rinv_step {G K : Nat → Nat} {T : List Edg} {R P : Nat → Nat} {e : Edg} (h : RInv G K T R P) (hg : 1 ≤ G e.i) (hk : 1 ≤ K e.i) (hn : ¬ Conn T e.f e.t) : RInv G K (e :: T) (joinR G K (R, P) e).1 (joinR G K (R, P) e).2 := by
  have hne : P e.f ≠ P e.t := fun he => hn ((h.cls _ _).1 he)
  have hx : 1 ≤ G e.i * R e.f := Nat.mul_pos hg (h.pos _)
  have hy : 1 ≤ K e.i * R e.t := Nat.mul_pos hk (h.pos _)
  have hxd : Nat.gcd (G e.i * R e.f) (K e.i * R e.t) ∣ G e.i * R e.f := Nat.gcd_dvd_left _ _
  have hyd : Nat.gcd (G e.i * R e.f) (K e.i * R e.t) ∣ K e.i * R e.t := Nat.gcd_dvd_right _ _
  have hd : 0 < Nat.gcd (G e.i * R e.f) (K e.i * R e.t) := Nat.gcd_pos_of_pos_left _ hx
  have hpx : 1 ≤ G e.i * R e.f / Nat.gcd (G e.i * R e.f) (K e.i * R e.t) := Nat.div_pos (Nat.le_of_dvd hx hxd) hd
  have hpy : 1 ≤ K e.i * R e.t / Nat.gcd (G e.i * R e.f) (K e.i * R e.t) := Nat.div_pos (Nat.le_of_dvd hy hyd) hd
  have hm := fun m1 m2 => meet (m1 := m1) (m2 := m2) hx hy
  have hxy : G e.i * R e.f * (K e.i * R e.t / Nat.gcd (G e.i * R e.f) (K e.i * R e.t)) = K e.i * R e.t * (G e.i * R e.f / Nat.gcd (G e.i * R e.f) (K e.i * R e.t)) := by
    rw [← Nat.mul_div_assoc _ hyd, ← Nat.mul_div_assoc _ hxd, Nat.mul_comm]
  unfold joinR
  simp only
  generalize hxx : G e.i * R e.f / Nat.gcd (G e.i * R e.f) (K e.i * R e.t) = x' at *
  generalize hyy : K e.i * R e.t / Nat.gcd (G e.i * R e.f) (K e.i * R e.t) = y' at *
  have same : ∀ u v, Conn T u v → P u = P v := fun u v hc => (h.cls u v).2 hc
  refine ⟨fun d hdm => ?_, fun u v => ?_, fun v => ?_, fun S hS u => ?_⟩
  · rcases List.mem_cons.1 hdm with rfl | hdm
    · rw [if_pos rfl, if_neg (fun he => hne he.symm), if_pos rfl, ← Nat.mul_assoc, ← Nat.mul_assoc]
      exact hxy
    · have hpp : P d.f = P d.t := same _ _ ⟨[(d.i, false)], d.t, ⟨d, hdm, rfl, by simp⟩, rfl⟩
      have he := h.ev d hdm
      rw [hpp]
      split
      · rw [← Nat.mul_assoc, ← Nat.mul_assoc, he]
      · split
        · rw [← Nat.mul_assoc, ← Nat.mul_assoc, he]
        · exact he
  · rw [conn_iff, ← h.cls, ← h.cls, ← h.cls, ← h.cls, ← h.cls]
    constructor
    · intro heq
      by_cases h1 : P u = P e.t <;> by_cases h2 : P v = P e.t
      · exact .inl (h1.trans h2.symm)
      · rw [if_pos h1, if_neg h2] at heq
        exact .inr (.inr ⟨h1, heq⟩)
      · rw [if_neg h1, if_pos h2] at heq
        exact .inr (.inl ⟨heq, h2.symm⟩)
      · rw [if_neg h1, if_neg h2] at heq
        exact .inl heq
    · rintro (h1 | ⟨h1, h2⟩ | ⟨h1, h2⟩)
      · rw [h1]
      · rw [if_neg (fun he => hne (h1.symm.trans he)), if_pos h2.symm, h1]
      · rw [if_pos h1, if_neg (fun he => hne (h2.trans he)), h2]
  · split
    · exact Nat.mul_pos (h.pos v) hpy
    · split
      · exact Nat.mul_pos (h.pos v) hpx
      · exact h.pos v
  · have hST : Solves G K T S := fun d hd => hS d (List.mem_cons_of_mem _ hd)
    have hSe := hS e (List.mem_cons_self ..)
    obtain ⟨m1, h1⟩ := h.least S hST e.f
    obtain ⟨m2, h2⟩ := h.least S hST e.t
    rw [h1 e.f rfl, h2 e.t rfl, Nat.mul_left_comm, Nat.mul_left_comm (K e.i)] at hSe
    obtain ⟨q, hq1, hq2⟩ := hm m1 m2 hSe
    by_cases hu : P u = P e.f ∨ P u = P e.t
    · refine ⟨q, fun v hv => ?_⟩
      have hpu : (if P u = P e.t then P e.f else P u) = P e.f := by
        rcases hu with hu | hu
        · rw [if_neg (fun he => hne (hu.symm.trans he)), hu]
        · rw [if_pos hu]
      rw [hpu] at hv
      by_cases hv1 : P v = P e.f
      · rw [if_pos hv1, h1 v hv1, hq1, Nat.mul_assoc, Nat.mul_comm y']
      · have hv2 : P v = P e.t := by
          by_cases hv2 : P v = P e.t
          · exact hv2
          · rw [if_neg hv2] at hv; exact absurd hv hv1
        rw [if_neg hv1, if_pos hv2, h2 v hv2, hq2, Nat.mul_assoc, Nat.mul_comm x']
    · obtain ⟨m, h3⟩ := h.least S hST u
      refine ⟨m, fun v hv => ?_⟩
      have hpu : (if P u = P e.t then P e.f else P u) = P u := if_neg (fun he => hu (.inr he))
      rw [hpu] at hv
      have hv2 : P v ≠ P e.t := fun he => by rw [if_pos he] at hv; exact hu (.inl hv.symm)
      rw [if_neg hv2] at hv
      rw [if_neg (fun he => hu (.inl (hv.symm.trans he))), if_neg hv2]
      exact h3 v hv
/-- the least counts of a forest -/
theorem rinv_all {G K : Nat → Nat} : ∀ {T : List Edg}, Forest T → (∀ e ∈ T, 1 ≤ G e.i ∧ 1 ≤ K e.i) → RInv G K T (countsR G K T).1 (countsR G K T).2
  | [], _, _ => rinv_start G K
  | e :: T, hF, hb => by
    have h := rinv_all hF.1 (fun d hd => hb d (List.mem_cons_of_mem _ hd))
    have hb := hb e (List.mem_cons_self ..)
    exact rinv_step h hb.1 hb.2 hF.2.2
/-- what solves a greater forest is a multiple of the smaller one's counts -/
theorem counts_le {G K : Nat → Nat} {T : List Edg} {R P S : Nat → Nat} (h : RInv G K T R P) (hS : Solves G K T S) (hp : ∀ v, 1 ≤ S v) (v : Nat) : R v ≤ S v := by
  obtain ⟨m, hm⟩ := h.least S hS v
  have h1 := hm v rfl
  have h2 := hp v
  rw [h1] at h2 ⊢
  rcases Nat.eq_zero_or_pos m with h0 | h0
  · rw [h0] at h2; omega
  · exact Nat.le_mul_of_pos_left _ h0
end Go.Proofs.YtpmlljbebdidgaaDoor
