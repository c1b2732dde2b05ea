/-
  Fj, Fj2, Fo: texts pasted together.
-/
import Derived.Test.YtlpmnhllnfhkdaaDoorM7
import Derived.IntWalk
/-
  The forest's arcs alone, one behind the other: they join what the forest joins; how many roots are left.
-/
namespace Go.Proofs.YtlpmnhllnfhkdaaDoor
open Go.RowKit

def joinStep (ars : List ArcV) (up : List Int) (x : Int) : List Int :=
  match ars[x.toNat]? with
  | some a => up.set (max (root up a.f.toNat) (root up a.t.toNat)) (min (root up a.f.toNat) (root up a.t.toNat) : Nat)
  | none => up
def Joins (ars : List ArcV) : List Int → List Int → Prop
  | _, [] => True
  | up, x :: xs => (0 ≤ x ∧ x < ars.length ∧ ∃ a, ars[x.toNat]? = some a ∧ root up a.f.toNat ≠ root up a.t.toNat) ∧ Joins ars (joinStep ars up x) xs
theorem forestGo_joins (ars : List ArcV) : ∀ (k i : Nat) (up tr : List Int), i + k = ars.length → ∃ new, (forestGo i up tr (ars.drop i)).2 = tr ++ new ∧ (forestGo i up tr (ars.drop i)).1 = new.foldl (joinStep ars) up ∧ Joins ars up new ∧ List.Pairwise (· < ·) new ∧ ∀ x ∈ new, (i : Int) ≤ x
  | 0, i, up, tr, h => by
    rw [List.drop_eq_nil_of_le (by omega)]
    exact ⟨[], by simp [forestGo], rfl, trivial, List.Pairwise.nil, fun _ h => by cases h⟩
  | k + 1, i, up, tr, h => by
    have hi : i < ars.length := by omega
    rw [List.drop_eq_getElem_cons hi, forestGo]
    by_cases he : root up ars[i].f.toNat = root up ars[i].t.toNat
    · rw [if_pos he]
      obtain ⟨new, h1, h2, h3, h4, h5⟩ := forestGo_joins ars k (i + 1) up tr (by omega)
      exact ⟨new, h1, h2, h3, h4, fun x hx => by have := h5 x hx; omega⟩
    · rw [if_neg he]
      have hs : joinStep ars up (i : Int) = up.set (max (root up ars[i].f.toNat) (root up ars[i].t.toNat)) (min (root up ars[i].f.toNat) (root up ars[i].t.toNat) : Nat) := by
        unfold joinStep
        rw [Int.toNat_natCast, List.getElem?_eq_getElem hi]
      obtain ⟨new, h1, h2, h3, h4, h5⟩ := forestGo_joins ars k (i + 1) (joinStep ars up (i : Int)) (tr ++ [(i : Int)]) (by omega)
      rw [← hs]
      refine ⟨(i : Int) :: new, by rw [h1, List.append_assoc]; rfl, h2, ⟨⟨by omega, by omega, ars[i], by rw [Int.toNat_natCast]; exact List.getElem?_eq_getElem hi, he⟩, h3⟩, List.Pairwise.cons (fun x hx => by have := h5 x hx; omega) h4, fun x hx => ?_⟩
      rcases List.mem_cons.1 hx with rfl | hx
      · omega
      · have := h5 x hx; omega
theorem treeF_joins (n : Nat) (ars : List ArcV) : (treeF n ars).foldl (joinStep ars) (selfs n) = upF n ars ∧ Joins ars (selfs n) (treeF n ars) ∧ List.Pairwise (· < ·) (treeF n ars) := by
  obtain ⟨new, h1, h2, h3, h4, _⟩ := forestGo_joins ars ars.length 0 (selfs n) [] (by omega)
  have e : treeF n ars = new := by unfold treeF; exact h1
  rw [e]
  exact ⟨h2.symm, h3, h4⟩
/-- what a joining step does to the roots -/
theorem joinStep_root {ars : List ArcV} {n : Nat} (hok : ∀ a ∈ ars, 0 ≤ a.f ∧ a.f < n ∧ 0 ≤ a.t ∧ a.t < n) {up : List Int} (hl : up.length = n) {x : Int} {a : ArcV} (ha : ars[x.toNat]? = some a) (hne : root up a.f.toNat ≠ root up a.t.toNat) :
    ∀ v, v < n → root (joinStep ars up x) v = if root up v = root up a.f.toNat ∨ root up v = root up a.t.toNat then min (root up a.f.toNat) (root up a.t.toNat) else root up v := by
  intro v hv
  obtain ⟨h1, h2, h3, h4⟩ := hok a (List.mem_of_getElem? ha)
  have rx := root_lt (up := up) (n := n) (v := a.f.toNat) (by omega)
  have ry := root_lt (up := up) (n := n) (v := a.t.toNat) (by omega)
  have e : joinStep ars up x = up.set (max (root up a.f.toNat) (root up a.t.toNat)) (min (root up a.f.toNat) (root up a.t.toNat) : Nat) := by unfold joinStep; rw [ha]
  rw [e, root_set up _ _ (by omega) (by omega) (by
      rcases Nat.lt_or_ge (root up a.f.toNat) (root up a.t.toNat) with hh | hh
      · rw [Nat.max_eq_right (by omega)]; exact root_root up _
      · rw [Nat.max_eq_left (by omega)]; exact root_root up _) (by
      rcases Nat.lt_or_ge (root up a.f.toNat) (root up a.t.toNat) with hh | hh
      · rw [Nat.min_eq_left (by omega)]; exact root_root up _
      · rw [Nat.min_eq_right (by omega)]; exact root_root up _) v (by omega)]
  generalize root up v = rv
  generalize root up a.f.toNat = ra at *
  generalize root up a.t.toNat = rb at *
  split <;> split <;> omega
theorem joinStep_length (ars : List ArcV) (up : List Int) (x : Int) : (joinStep ars up x).length = up.length := by
  unfold joinStep
  split <;> simp
theorem joinStep_good {ars : List ArcV} {up : List Int} (h : Good up) (x : Int) : Good (joinStep ars up x) := by
  unfold joinStep
  split
  · exact good_set up _ _ h (by omega)
  · exact h
/-- how many roots -/
def rootsN (n : Nat) (up : List Int) : Nat := (List.range n).countP fun v => decide (root up v = v)
theorem count_less {p : Nat → Bool} {hi : Nat} (hp : p hi = true) : ∀ {n : Nat}, hi < n → (List.range n).countP (fun v => p v && decide (v ≠ hi)) + 1 = (List.range n).countP p
  | 0, h => absurd h (Nat.not_lt_zero _)
  | n + 1, h => by
    rw [List.range_succ, List.countP_append, List.countP_append]
    by_cases he : hi = n
    · subst he
      have e : (List.range hi).countP (fun v => p v && decide (v ≠ hi)) = (List.range hi).countP p := by
        apply List.countP_congr
        intro v hv
        have := List.mem_range.1 hv
        simp; omega
      rw [e]
      simp [hp]
    · have ih := count_less hp (n := n) (by omega)
      have e : List.countP (fun v => p v && decide (v ≠ hi)) [n] = List.countP p [n] := by
        have : n ≠ hi := fun h => he h.symm
        simp [this]
      rw [e]; omega
theorem rootsN_step {ars : List ArcV} {n : Nat} (hok : ∀ a ∈ ars, 0 ≤ a.f ∧ a.f < n ∧ 0 ≤ a.t ∧ a.t < n) {up : List Int} (hl : up.length = n) {x : Int} {a : ArcV} (ha : ars[x.toNat]? = some a) (hne : root up a.f.toNat ≠ root up a.t.toNat) :
    rootsN n (joinStep ars up x) + 1 = rootsN n up := by
  obtain ⟨h1, h2, h3, h4⟩ := hok a (List.mem_of_getElem? ha)
  have rx := root_lt (up := up) (n := n) (v := a.f.toNat) (by omega)
  have ry := root_lt (up := up) (n := n) (v := a.t.toNat) (by omega)
  have rrx := root_root up a.f.toNat
  have rry := root_root up a.t.toNat
  have key : rootsN n (joinStep ars up x) = (List.range n).countP (fun v => decide (root up v = v) && decide (v ≠ max (root up a.f.toNat) (root up a.t.toNat))) := by
    apply List.countP_congr
    intro v hv
    have hvn := List.mem_range.1 hv
    rw [joinStep_root hok hl ha hne v hvn]
    generalize hra : root up a.f.toNat = ra at *
    generalize hrb : root up a.t.toNat = rb at *
    simp only [decide_eq_true_eq, Bool.and_eq_true]
    by_cases hva : v = ra
    · subst hva; rw [rrx]; simp; omega
    · by_cases hvb : v = rb
      · subst hvb; rw [rry]; simp; omega
      · generalize root up v = rv
        split <;> omega
  rw [key]
  refine count_less ?_ (by omega)
  rcases Nat.lt_or_ge (root up a.f.toNat) (root up a.t.toNat) with hh | hh
  · rw [Nat.max_eq_right (by omega)]; simpa using rry
  · rw [Nat.max_eq_left (by omega)]; simpa using rrx
theorem rootsN_joins {ars : List ArcV} {n : Nat} (hok : ∀ a ∈ ars, 0 ≤ a.f ∧ a.f < n ∧ 0 ≤ a.t ∧ a.t < n) : ∀ (xs up : List Int), up.length = n → Joins ars up xs → rootsN n (xs.foldl (joinStep ars) up) + xs.length = rootsN n up
  | [], _, _, _ => rfl
  | x :: xs, up, hl, ⟨⟨_, _, a, ha, hne⟩, h2⟩ => by
    have ih := rootsN_joins hok xs (joinStep ars up x) (by rw [joinStep_length, hl]) h2
    have := rootsN_step hok hl ha hne
    rw [List.foldl_cons, List.length_cons]; omega
theorem rootsN_selfs (n : Nat) : rootsN n (selfs n) = n := by
  have : (List.range n).countP (fun v => decide (root (selfs n) v = v)) = (List.range n).length := by
    rw [List.countP_eq_length]
    intro v hv
    simpa using selfs_root (List.mem_range.1 hv)
  unfold rootsN
  rw [this, List.length_range]
/-- arcs and components are as many as nodes -/
theorem spans {n : Nat} {ars : List ArcV} (hok : ∀ a ∈ ars, 0 ≤ a.f ∧ a.f < n ∧ 0 ≤ a.t ∧ a.t < n) : (treeF n ars).length + rootsN n (upF n ars) = n := by
  obtain ⟨h1, h2, _⟩ := treeF_joins n ars
  have := rootsN_joins hok (treeF n ars) (selfs n) (selfs_length n) h2
  rw [h1, rootsN_selfs] at this
  omega
end Go.Proofs.YtlpmnhllnfhkdaaDoor
/-
  The law's 'joined', over the forest's arcs.
-/
namespace Go.Proofs.YtlpmnhllnfhkdaaDoor
open Go.RowKit

theorem rootsK_length (up : List Int) (k : Nat) : (rootsK up k).length = k := by simp [rootsK]
theorem rootsK_at {up : List Int} {n v : Nat} (h : v < n) : (rootsK up n)[v]? = some (root up v : Int) := by simp [rootsK, h]
def mix (up up' : List Int) (n j : Nat) : List Int := rootsK up' j ++ (rootsK up n).drop j
theorem mix_length {up up' : List Int} {n j : Nat} (h : j ≤ n) : (mix up up' n j).length = n := by simp [mix, rootsK_length]; omega
theorem mix_drop {up : List Int} {n j : Nat} (h : j < n) : (rootsK up n).drop j = (root up j : Int) :: (rootsK up n).drop (j + 1) := by
  have hl : j < (rootsK up n).length := by rw [rootsK_length]; exact h
  rw [List.drop_eq_getElem_cons hl]
  have := rootsK_at (up := up) h
  rw [List.getElem?_eq_getElem hl] at this
  rw [Option.some.inj this]
theorem mix_at {up up' : List Int} {n j : Nat} (h : j < n) : (mix up up' n j)[j]? = some (root up j : Int) := by
  unfold mix
  rw [List.getElem?_append_right (by rw [rootsK_length]; exact Nat.le_refl _), rootsK_length, Nat.sub_self, mix_drop h]
  rfl
theorem rootsK_succ (up : List Int) (j : Nat) : rootsK up (j + 1) = rootsK up j ++ [(root up j : Int)] := by simp [rootsK, List.range_succ]
theorem mix_set {up up' : List Int} {n j : Nat} (h : j < n) : (mix up up' n j).set j (root up' j : Nat) = mix up up' n (j + 1) := by
  unfold mix
  rw [List.set_append_right _ _ (by rw [rootsK_length]; exact Nat.le_refl _), rootsK_length, Nat.sub_self, mix_drop h, List.set_cons_zero, rootsK_succ, List.append_assoc]
  rfl
theorem mix_same {up up' : List Int} {n j : Nat} (h : j < n) (he : root up' j = root up j) : mix up up' n j = mix up up' n (j + 1) := by
  rw [← mix_set h]
  have := mix_at (up := up) (up' := up') h
  rw [he]
  obtain ⟨hl, hv⟩ := List.getElem?_eq_some_iff.1 this
  rw [← hv, List.set_getElem_self]
theorem mix_zero (up up' : List Int) (n : Nat) : mix up up' n 0 = rootsK up n := rfl
theorem mix_end (up up' : List Int) (n : Nat) : mix up up' n n = rootsK up' n := by
  unfold mix
  rw [List.drop_eq_nil_of_le (by rw [rootsK_length]; exact Nat.le_refl _), List.append_nil]

end Go.Proofs.YtlpmnhllnfhkdaaDoor
/-
  The document's answer: the forest.
-/
namespace Go.Proofs.YtlpmnhllnfhkdaaDoor
open Go.RowKit

/-- a joining step on the roots, by the higher and the lower of two -/
theorem root_join {up : List Int} {n : Nat} (hul : up.length = n) {ra rb : Nat} (ha : root up ra = ra) (hb : root up rb = rb) (h1 : ra < n) (h2 : rb < n) (hne : ra ≠ rb) : ∀ v, v < n → root (up.set (max ra rb) (min ra rb : Nat)) v = if root up v = max ra rb then min ra rb else root up v := by
  intro v hv
  refine root_set up _ _ (by omega) (by omega) ?_ ?_ v (by omega)
  · rcases Nat.lt_or_ge ra rb with hh | hh
    · rw [Nat.max_eq_right (by omega)]; exact hb
    · rw [Nat.max_eq_left (by omega)]; exact ha
  · rcases Nat.lt_or_ge ra rb with hh | hh
    · rw [Nat.min_eq_left (by omega)]; exact ha
    · rw [Nat.min_eq_right (by omega)]; exact hb

set_option maxRecDepth 100000 in
set_option maxHeartbeats 4000000 in
theorem refOf_walk (n : Nat) (ars : List ArcV) (A : Option Addr) (l c : Nat) (w : World) (hl : ars.length = l) (hx : ∀ a ∈ ars, a.fit) (hr : Rd w w.heap.size A (cellsA ars)) (hm : l ≤ maxLen) (hc : checkF n ars = 0) :
    Calls Tryd.prog 26 #[.agg #[.int .i64 n, .slice A l c]] w fun e w' => ∃ A' c' gh, e = .returned (.tuple #[.agg #[.slice A' (treeF n ars).length c', .slice (some ⟨gh, 0, none⟩) n n], .int .i64 0]) ∧
      w'.ownsRow w.heap.size 3 1 (.slice A' (treeF n ars).length c') (treeF n ars).length (cellsI (treeF n ars)) ∧ w'.ownsRow w.heap.size 3 1 (.slice (some ⟨gh, 0, none⟩) n n) n (cellsI (homeF n ars)) ∧ Below w.heap.size w w' := by
  obtain ⟨i0, hi, hz0, hz1, hz2⟩ := info_parts info_int
  obtain ⟨hn1, hn32, hl96, hok⟩ := checkF_ok hc
  have Hok := Lib.hid hok
  clear hok
  go_enter Tryd.func26, Tryd.ntmps26
  have hb0 : ∀ o o', Below w.heap.size w ((w.alloc o).alloc o') := fun o o' => ((Below.refl _ _).alloc (Nat.le_refl _) o).alloc (by simp) o'
  go_wp2_with fail
  refine (refCheck_any n ars A l c _ hl hx ((hr.below (hb0 _ _) (Nat.le_refl _)).more (by simp; omega)) hm).mono ?_; rintro e w1 ⟨rfl, hb1⟩
  rw [hc]
  have bz : ((w.alloc (.cells #[.int .i64 n, .slice A l c] 24)).alloc (.cells #[.slice none 0 0, .slice none 0 0] 54)).heap.size = w.heap.size + 1 + 1 := by simp
  have bw1 : Below w.heap.size w w1 := (hb0 _ _).trans (hb1.mono (by rw [bz]; omega))
  have kn1 : Blk w1 w.heap.size 24 #[.int .i64 n, .slice A l c] := ((Blk.new w _ rfl _ _).alloc _).below hb1 (by rw [bz]; omega)
  have kr1 : Blk w1 (w.heap.size + 1) 54 #[.slice none 0 0, .slice none 0 0] := (Blk.new (w.alloc (.cells #[.int .i64 n, .slice A l c] 24)) _ (by simp) _ _).below hb1 (by rw [bz]; omega)
  have s1 := hb1.size
  rw [bz] at s1
  clear hb1 bz hb0
  have n0 := kn1.cell 0
  simp at n0
  go_wp2_with (at_make; refine wpList_make_full _ rfl _ _ 26 rfl w1.heap.size 3 i0 (.int .i64 0) 1 Tryd.underlying26 hi hz0 hz1 _ _ _ _ n rfl rfl (by omega) (by omega) (by rw [hz2]; omega) (by unfold maxLen; omega) (by simp) ?_)
  intro w2 o2 g2
  rw [made_int] at o2
  have b2 : Below w.heap.size w w2 := bw1.grown g2 bw1.size (fun k hk => by cases hk)
  have kn2 := kn1.grown g2 (by simp)
  have kr2 := kr1.grown g2 (by simp)
  have hgl := own_lt o2
  obtain ⟨g, hg⟩ : ∃ g, w1.heap.size = g := ⟨_, rfl⟩
  rw [hg] at o2 s1 hgl ⊢
  clear g2 kn1 kr1 bw1 n0 hg
  go_wp2
  go_loopw [6] (fun i wr => ∃ k : Nat, k ≤ n ∧ i = .int .i64 k ∧ wr.ownsRow g 3 1 (.slice (some ⟨g, 0, none⟩) n n) n (cellsI (selfs k ++ List.replicate (n - k) 0)) ∧
    Blk wr w.heap.size 24 #[.int .i64 n, .slice A l c] ∧ Blk wr (w.heap.size + 1) 54 #[.slice none 0 0, .slice none 0 0] ∧ Below w.heap.size w wr) (fun i _ => n - (intOf i).toNat)
  case atStart => exact ⟨0, by omega, rfl, o2, kn2, kr2, b2⟩
  case round =>
    clear o2 kn2 kr2 b2
    obtain ⟨k, hk, rfl, o3, kn3, kr3, b3⟩ := hrel
    have n0 := kn3.cell 0
    simp at n0
    by_cases hlt : k < n
    · have hl3 : (selfs k ++ List.replicate (n - k) (0 : Int)).length = n := by simp [selfs_length]; omega
      obtain ⟨o, hoo⟩ : ∃ o, (selfs k ++ List.replicate (n - k) (0 : Int))[k]? = some o := ⟨_, List.getElem?_eq_getElem (by omega)⟩
      have hco := o3.cellAt k (by omega)
      rw [show (cellsI (selfs k ++ List.replicate (n - k) (0 : Int)))[k]? = some (.int .i64 o) by simp only [cellsI, List.getElem?_map, hoo]; rfl] at hco
      have fro := o3.frozenAt k
      have o4 := (o3.stored k (.int .i64 k)).1
      rw [cellsI_set, selfs_next n k hlt] at o4
      have m2 := kn3.far (p := ⟨g, k, none⟩) (by simp; omega) (.int .i64 k)
      have m3 := kr3.far (p := ⟨g, k, none⟩) (by simp; omega) (.int .i64 k)
      have m4 := b3.setCell (p := ⟨g, k, none⟩) (by simp; omega) (.int .i64 k)
      clear o3 kn3 kr3 b3 hoo
      go_wp2
      go_roundw
      case rel => exact ⟨k + 1, by omega, by go_num, o4, m2, m3, m4⟩
      case measure => simp [intOf]; omega
    · obtain rfl : n = k := by omega
      have o4 : wr.ownsRow g 3 1 (.slice (some ⟨g, 0, none⟩) n n) n (cellsI (rootsK (selfs n) n)) := by
        have e : rootsK (selfs n) n = selfs n := by
          unfold rootsK selfs
          apply List.map_congr_left
          intro v hv
          rw [← selfs, selfs_root (List.mem_range.1 hv)]
        rw [e]
        simpa using o3
      have hgl2 := own_lt o4
      obtain ⟨base, hbase⟩ : ∃ base, wr.heap.size = base := ⟨_, rfl⟩
      rw [hbase] at hgl2
      have hbz : base ≤ wr.heap.size := by omega
      clear o3
      go_wp2
      clear hbase
      go_loopw [7, 8] (fun v i wx => ∃ (k : Nat) (up tr : List Int) (At : Option Addr) (ct : Nat), k ≤ l ∧ i = .int .i64 k ∧ v = .slice At tr.length ct ∧ up.length = n ∧ tr.length ≤ k ∧ wx.ownsRow g 3 1 (.slice (some ⟨g, 0, none⟩) n n) n (cellsI (rootsK up n)) ∧
        wx.ownsRow base 3 1 (.slice At tr.length ct) tr.length (cellsI tr) ∧ Blk wx w.heap.size 24 #[.int .i64 n, .slice A l c] ∧ Blk wx (w.heap.size + 1) 54 #[.slice none 0 0, .slice none 0 0] ∧ Below w.heap.size w wx ∧ base ≤ wx.heap.size ∧
        Hid (forestGo 0 (selfs n) [] ars = forestGo k up tr (ars.drop k))) (fun _ i _ => l - (intOf i).toNat)
      case atStart => exact ⟨0, selfs n, [], none, 0, Nat.zero_le _, rfl, rfl, selfs_length n, Nat.le_refl _, o4, World.ownsRow_nil _ _ _ _, kn3, kr3, b3, hbz, rfl⟩
      case round =>
        clear o4 kn3 kr3 b3 n0 hbz
        obtain ⟨k, up, tr, At, ct, hk, rfl, rfl, hul, htl, o5, ot, kn5, kr5, b5, hbz, He⟩ := hrel
        have n0 := kn5.cell 0
        have n1 := kn5.cell 1
        simp at n0 n1
        by_cases hlt : k < l
        · obtain ⟨b, off, a, rfl, hbl, hfa, c0, c1, c2, c3, c4, hd, hat⟩ := (hr.below b5 (Nat.le_refl _)).arc (k := k) hx (by omega)
          obtain ⟨q1, q2, q3, q4⟩ := Hok.out a (List.mem_of_getElem? hat.out)
          obtain ⟨fx, hfx⟩ : ∃ fx : Nat, a.f = fx := ⟨a.f.toNat, by omega⟩
          obtain ⟨tx, htx⟩ : ∃ tx : Nat, a.t = tx := ⟨a.t.toNat, by omega⟩
          have Hst : Hid (forestGo 0 (selfs n) [] ars = if root up fx = root up tx then forestGo (k + 1) up tr (ars.drop (k + 1)) else forestGo (k + 1) (up.set (max (root up fx) (root up tx)) (min (root up fx) (root up tx) : Nat)) (tr ++ [(k : Int)]) (ars.drop (k + 1))) := by
            unfold Hid; rw [He.out, hd.out, forestGo, hfx, htx]; rfl
          rw [hfx] at c0 q1 q2
          rw [htx] at c1 q3 q4
          have e1 := o5.cellAt fx (by omega)
          have e2 := o5.cellAt tx (by omega)
          rw [show (cellsI (rootsK up n))[fx]? = some (.int .i64 (root up fx : Nat)) by simp [cellsI, rootsK_at (show fx < n by omega)]] at e1
          rw [show (cellsI (rootsK up n))[tx]? = some (.int .i64 (root up tx : Nat)) by simp [cellsI, rootsK_at (show tx < n by omega)]] at e2
          have rrx := root_root up fx
          have rry := root_root up tx
          have rlx := root_lt (up := up) (n := n) (v := fx) (by omega)
          have rly := root_lt (up := up) (n := n) (v := tx) (by omega)
          have g1 : (0 : Int) ≤ (k : Int) := by omega
          have g2 : (k : Int) < (l : Int) := by omega
          clear hd hat He hfx htx
          generalize root up fx = ra at *
          generalize root up tx = rb at *
          by_cases hrr : ra = rb
          · subst hrr
            rw [if_pos rfl] at Hst
            clear rrx rry
            go_wp2
            go_roundw
            case rel => exact ⟨k + 1, up, tr, At, ct, by omega, by go_num, rfl, hul, by omega, o5, ot, kn5, kr5, b5, hbz, Hst⟩
            case measure => simp [intOf]; omega
          · rw [if_neg hrr] at Hst
            have hjoin := root_join hul rrx rry rlx rly hrr
            have Hj := Lib.hid hjoin
            have hne : ((ra : Int) == (rb : Int)) = false := by simp; omega
            clear rrx rry hjoin
            go_wp2_with (at_builtin; refine wpList_append_rd _ rfl _ _ 26 rfl base 3 i0 (.int .i64 0) 1 8 Tryd.underlying26 hi hz0 hz1 hz2 rfl (by decide) _ tr.length (cellsI tr) rfl (ot.alloc _) (wr.heap.size + 1) (some ⟨wr.heap.size, 0, none⟩) 1 1 (cellsI [(k : Int)]) rfl rfl (rd_alloc wr wr.heap.size rfl 3 (cellsI [(k : Int)])) (cellsI_one [(k : Int)]) (by unfold maxLen; omega) (by omega) (by simp; omega) ?_)
            intro v' w5 ot5 g5 _
            obtain ⟨A5, c5, rfl, hc5⟩ := own_slice ot5
            have htl5 := ot.lt
            have nb : ∀ q, q < base → some q ≠ (Value.slice At tr.length ct).ownBlock := fun q hq he => by have := (htl5 q he.symm).1; omega
            have hbz2 : w.heap.size + 1 < base := by omega
            have o6 := (o5.alloc (.cells #[.int .i64 k] 3)).kept g5 (.inr (by simp only [Value.ownBlock]; exact nb g hgl2))
            have kn6 := (kn5.alloc (.cells #[.int .i64 k] 3)).grown g5 (nb _ (by omega))
            have kr6 := (kr5.alloc (.cells #[.int .i64 k] 3)).grown g5 (nb _ (by omega))
            have b6 := (b5.alloc b5.size (.cells #[.int .i64 k] 3)).grown g5 (b5.alloc b5.size (.cells #[.int .i64 k] 3)).size (fun q hq => by have := (htl5 q hq).1; omega)
            have hbz6 : base ≤ w5.heap.size := by have := g5.size; simp at this; omega
            have ot6 : w5.ownsRow base 3 1 (.slice A5 (tr ++ [(k : Int)]).length c5) (tr ++ [(k : Int)]).length (cellsI (tr ++ [(k : Int)])) := by simpa [cellsI] using ot5
            rw [show tr.length + 1 = (tr ++ [(k : Int)]).length by simp]
            have htl6 : (tr ++ [(k : Int)]).length ≤ k + 1 := by simp; omega
            clear o5 ot kn5 kr5 b5 ot5 g5 htl5 nb hbz c0 c1 c2 c3 c4 e1 e2 n0 n1 hne
            generalize tr ++ [(k : Int)] = tr' at *
            rcases Nat.lt_or_gt_of_ne hrr with hlr | hlr
            · rw [Nat.max_eq_right (by omega), Nat.min_eq_left (by omega)] at Hst Hj
              obtain ⟨lo, rfl⟩ : ∃ lo, lo = ra := ⟨_, rfl⟩
              obtain ⟨hg, rfl⟩ : ∃ hg, hg = rb := ⟨_, rfl⟩
              have hlh : lo < hg := by omega
              have n0 := kn6.cell 0
              simp at n0
              go_wp2
              clear n0
              go_loopw [13] (fun i wx => ∃ j : Nat, j ≤ n ∧ i = .int .i64 j ∧ wx.ownsRow g 3 1 (.slice (some ⟨g, 0, none⟩) n n) n (cellsI (mix up (up.set hg (lo : Nat)) n j)) ∧ wx.ownsRow base 3 1 (.slice A5 tr'.length c5) tr'.length (cellsI tr') ∧ Blk wx w.heap.size 24 #[.int .i64 n, .slice (some ⟨b, off, none⟩) l c] ∧
                Blk wx (w.heap.size + 1) 54 #[.slice none 0 0, .slice none 0 0] ∧ Below w.heap.size w wx ∧ base ≤ wx.heap.size) (fun i _ => n - (intOf i).toNat)
              case atStart => exact ⟨0, Nat.zero_le _, rfl, by rw [mix_zero]; exact o6, ot6, kn6, kr6, b6, hbz6⟩
              case round =>
                clear o6 ot6 kn6 kr6 b6 hbz6
                obtain ⟨j, hjn, rfl, o9, ot9, kn9, kr9, b9, hbz9⟩ := hrel
                have n0 := kn9.cell 0
                simp at n0
                by_cases hjlt : j < n
                · have hco := o9.cellAt j (by omega)
                  rw [show (cellsI (mix up (up.set hg (lo : Nat)) n j))[j]? = some (.int .i64 (root up j : Nat)) by simp only [cellsI, List.getElem?_map, mix_at hjlt]; rfl] at hco
                  have fro := o9.frozenAt j
                  have hrj := Hj.out j hjlt
                  have hsto := o9.stored j (.int .i64 (root (up.set hg (lo : Nat)) j : Nat))
                  have o10 := hsto.1
                  rw [cellsI_set, mix_set hjlt] at o10
                  have ot10 := ot9.kept hsto.2 (.inr (fun he => by have := (ot9.lt g he).1; omega))
                  have m2 := kn9.far (p := ⟨g, j, none⟩) (by simp; omega) (.int .i64 (root (up.set hg (lo : Nat)) j : Nat))
                  have m3 := kr9.far (p := ⟨g, j, none⟩) (by simp; omega) (.int .i64 (root (up.set hg (lo : Nat)) j : Nat))
                  have m4 := b9.setCell (p := ⟨g, j, none⟩) (by simp; omega) (.int .i64 (root (up.set hg (lo : Nat)) j : Nat))
                  have hbz10 : base ≤ (wr.setCell ⟨g, j, none⟩ (.int .i64 (root (up.set hg (lo : Nat)) j : Nat))).heap.size := by simpa using hbz9
                  have hsame := fun h : root (up.set hg (lo : Nat)) j = root up j => mix_same (up := up) hjlt h
                  clear hsto
                  generalize hrr2 : root up j = rr at *
                  by_cases hc1 : rr = hg
                  · rw [if_pos hc1] at hrj
                    rw [hrj] at o10 ot10 m2 m3 m4 hbz10
                    clear hsame hrj hrr2
                    subst hc1
                    go_wp2
                    go_roundw
                    case rel => exact ⟨j + 1, by omega, by go_num, o10, ot10, m2, m3, m4, hbz10⟩
                    case measure => simp [intOf]; omega
                  · rw [if_neg hc1] at hrj
                    have e := hsame hrj
                    rw [e] at o9
                    have q1 : ((rr : Int) == (hg : Int)) = false := by simp; omega
                    clear hsame hrj hrr2 o10 ot10 m2 m3 m4 hbz10 e
                    go_wp2
                    go_roundw
                    case rel => exact ⟨j + 1, by omega, by go_num, o9, ot9, kn9, kr9, b9, hbz9⟩
                    case measure => simp [intOf]; omega
                · obtain rfl : j = n := by omega
                  rw [mix_end] at o9
                  go_wp2
                  go_roundw
                  case rel => exact ⟨k + 1, up.set hg (lo : Nat), tr', A5, c5, by omega, by go_num, rfl, by simp [hul], htl6, o9, ot9, kn9, kr9, b9, hbz9, Hst⟩
                  case measure => simp [intOf]; omega
            · rw [Nat.max_eq_left (by omega), Nat.min_eq_right (by omega)] at Hst Hj
              obtain ⟨hg, rfl⟩ : ∃ hg, hg = ra := ⟨_, rfl⟩
              obtain ⟨lo, rfl⟩ : ∃ lo, lo = rb := ⟨_, rfl⟩
              have hlh : lo < hg := by omega
              have n0 := kn6.cell 0
              simp at n0
              go_wp2
              clear n0
              go_loopw [13] (fun i wx => ∃ j : Nat, j ≤ n ∧ i = .int .i64 j ∧ wx.ownsRow g 3 1 (.slice (some ⟨g, 0, none⟩) n n) n (cellsI (mix up (up.set hg (lo : Nat)) n j)) ∧ wx.ownsRow base 3 1 (.slice A5 tr'.length c5) tr'.length (cellsI tr') ∧ Blk wx w.heap.size 24 #[.int .i64 n, .slice (some ⟨b, off, none⟩) l c] ∧
                Blk wx (w.heap.size + 1) 54 #[.slice none 0 0, .slice none 0 0] ∧ Below w.heap.size w wx ∧ base ≤ wx.heap.size) (fun i _ => n - (intOf i).toNat)
              case atStart => exact ⟨0, Nat.zero_le _, rfl, by rw [mix_zero]; exact o6, ot6, kn6, kr6, b6, hbz6⟩
              case round =>
                clear o6 ot6 kn6 kr6 b6 hbz6
                obtain ⟨j, hjn, rfl, o9, ot9, kn9, kr9, b9, hbz9⟩ := hrel
                have n0 := kn9.cell 0
                simp at n0
                by_cases hjlt : j < n
                · have hco := o9.cellAt j (by omega)
                  rw [show (cellsI (mix up (up.set hg (lo : Nat)) n j))[j]? = some (.int .i64 (root up j : Nat)) by simp only [cellsI, List.getElem?_map, mix_at hjlt]; rfl] at hco
                  have fro := o9.frozenAt j
                  have hrj := Hj.out j hjlt
                  have hsto := o9.stored j (.int .i64 (root (up.set hg (lo : Nat)) j : Nat))
                  have o10 := hsto.1
                  rw [cellsI_set, mix_set hjlt] at o10
                  have ot10 := ot9.kept hsto.2 (.inr (fun he => by have := (ot9.lt g he).1; omega))
                  have m2 := kn9.far (p := ⟨g, j, none⟩) (by simp; omega) (.int .i64 (root (up.set hg (lo : Nat)) j : Nat))
                  have m3 := kr9.far (p := ⟨g, j, none⟩) (by simp; omega) (.int .i64 (root (up.set hg (lo : Nat)) j : Nat))
                  have m4 := b9.setCell (p := ⟨g, j, none⟩) (by simp; omega) (.int .i64 (root (up.set hg (lo : Nat)) j : Nat))
                  have hbz10 : base ≤ (wr.setCell ⟨g, j, none⟩ (.int .i64 (root (up.set hg (lo : Nat)) j : Nat))).heap.size := by simpa using hbz9
                  have hsame := fun h : root (up.set hg (lo : Nat)) j = root up j => mix_same (up := up) hjlt h
                  clear hsto
                  generalize hrr2 : root up j = rr at *
                  by_cases hc1 : rr = hg
                  · rw [if_pos hc1] at hrj
                    rw [hrj] at o10 ot10 m2 m3 m4 hbz10
                    clear hsame hrj hrr2
                    subst hc1
                    go_wp2
                    go_roundw
                    case rel => exact ⟨j + 1, by omega, by go_num, o10, ot10, m2, m3, m4, hbz10⟩
                    case measure => simp [intOf]; omega
                  · rw [if_neg hc1] at hrj
                    have e := hsame hrj
                    rw [e] at o9
                    have q1 : ((rr : Int) == (hg : Int)) = false := by simp; omega
                    clear hsame hrj hrr2 o10 ot10 m2 m3 m4 hbz10 e
                    go_wp2
                    go_roundw
                    case rel => exact ⟨j + 1, by omega, by go_num, o9, ot9, kn9, kr9, b9, hbz9⟩
                    case measure => simp [intOf]; omega
                · obtain rfl : j = n := by omega
                  rw [mix_end] at o9
                  go_wp2
                  go_roundw
                  case rel => exact ⟨k + 1, up.set hg (lo : Nat), tr', A5, c5, by omega, by go_num, rfl, by simp [hul], htl6, o9, ot9, kn9, kr9, b9, hbz9, Hst⟩
                  case measure => simp [intOf]; omega
        · have hd : ars.drop k = [] := List.drop_eq_nil_of_le (by omega)
          have hup : upF n ars = up ∧ treeF n ars = tr := by
            unfold upF treeF
            rw [He.out, hd]
            exact ⟨rfl, rfl⟩
          have hhome : homeF n ars = rootsK up n := by unfold homeF; rw [hup.1]; rfl
          have S7 := kr5.set 0 (.slice At tr.length ct)
          have S8 := S7.set 1 (.slice (some ⟨g, 0, none⟩) n n)
          have t0 := S8.cell 0
          have t1 := S8.cell 1
          have r0 := kr5.cell 0
          have r1 := kr5.cell 1
          have z0 := kr5.frozen 0
          have z1 := kr5.frozen 1
          have ot' := own_set (own_set ot kr5 (by decide) 0 (.slice At tr.length ct)) S7 (by decide) 1 (.slice (some ⟨g, 0, none⟩) n n)
          have oh' := own_set (own_set o5 kr5 (by decide) 0 (.slice At tr.length ct)) S7 (by decide) 1 (.slice (some ⟨g, 0, none⟩) n n)
          have bw := (b5.setCell (p := ⟨w.heap.size + 1, 0, none⟩) (by simp) (.slice At tr.length ct)).setCell (p := ⟨w.heap.size + 1, 1, none⟩) (by simp) (.slice (some ⟨g, 0, none⟩) n n)
          have ot2 := own_mono (base' := w.heap.size) ot' (by omega)
          have oh2 := own_mono (base' := w.heap.size) oh' (by omega)
          simp at t0 t1 r0 r1
          have Hup := Lib.hid hup
          have Hho := Lib.hid hhome
          clear S7 S8 ot oh' ot' o5 He hd hup hhome
          go_wp2
          refine bodyPost_ret (v := .tuple #[.agg #[.slice At tr.length ct, .slice (some ⟨g, 0, none⟩) n n], .int .i64 0]) (by simp [results, Tryd.results26, go_sem, t0, t1]) rfl ?_
          rw [Hup.out.2, Hho.out]
          exact ⟨At, ct, g, rfl, ot2, oh2, bw⟩
end Go.Proofs.YtlpmnhllnfhkdaaDoor
