/-
  The document's answer: the search along the forest.
-/
import Derived.Test.YtlpmnhllnfhkdaaDoorM8
import Derived.Test.YtlpmnhllnfhkdaaDoorM7
import Derived.BigRegion
namespace Go.Proofs.YtlpmnhllnfhkdaaDoor
open Go.RowKit

/-- it does not begin along that arc -/
def NotFirst (last : Int) : List Stp → Prop
  | [] => True
  | s :: _ => (s.1 : Int) ≠ last
/-- steps gone so far, the last one along that arc -/
def Trail (T : List Edg) (at_ : Nat) (last : Int) (q : List Stp) : Prop := (∃ u, Walk T u q at_) ∧ Red q ∧ (∀ q' s, q = q' ++ [s] → (s.1 : Int) = last)
def SearchAns (T : List Edg) (at_ fz : Nat) (last : Int) (fnd : Bool) (p : List Stp) : Prop :=
  (fnd = true ∧ Walk T at_ p fz ∧ Red p ∧ NotFirst last p) ∨ (fnd = false ∧ p = [] ∧ ∀ q, Walk T at_ q fz → Red q → NotFirst last q → False)
theorem ends_ne {T : List Edg} (hF : Forest T) {e : Edg} (he : e ∈ T) : e.f ≠ e.t := by
  intro h
  have hm : stepOk T e.f e.t (e.i, false) := ⟨e, he, rfl, by simp⟩
  have := no_twice hF (p := [(e.i, false)]) (q := []) (u := e.f) (v := e.t) (x := e.t) ⟨e.t, hm, rfl⟩ rfl trivial h
  cases this
theorem step_one {T : List Edg} (hF : Forest T) {u m m' : Nat} {s s' : Stp} (h : stepOk T u m s) (h' : stepOk T u m' s') (he : s.1 = s'.1) : s = s' ∧ m = m' := by
  obtain ⟨d, hd, h1, h2⟩ := h
  obtain ⟨d', hd', h1', h2'⟩ := h'
  have := same_edge hF hd hd' (h1.trans (he.trans h1'.symm))
  subst this
  have hne := ends_ne hF hd
  obtain ⟨i, b⟩ := s
  obtain ⟨i', b'⟩ := s'
  simp only at he h2 h2'
  cases b <;> cases b' <;> simp at h2 h2'
  · exact ⟨by rw [he], by rw [h2.2, h2'.2]⟩
  · exact absurd (h2.1.symm.trans h2'.2) hne
  · exact absurd (h2'.1.symm.trans h2.2) hne
  · exact ⟨by rw [he], by rw [h2.1, h2'.1]⟩
theorem Trail.snoc {T : List Edg} {at_ m : Nat} {last : Int} {q : List Stp} {s : Stp} (h : Trail T at_ last q) (hs : stepOk T at_ m s) (hne : (s.1 : Int) ≠ last) : Trail T m (s.1 : Int) (q ++ [s]) := by
  obtain ⟨⟨u, hu⟩, h2, h3⟩ := h
  refine ⟨⟨u, hu.app ⟨m, hs, rfl⟩⟩, Red.snoc h2 fun q' s' hq he => ?_, fun q' s' hq => ?_⟩
  · have := h3 q' s' hq
    rw [he] at this
    exact hne this
  · have := List.append_inj_right' hq rfl
    simp at this
    rw [this]
theorem tree_length {n : Nat} {ars : List ArcV} {up tr : List Int} {T : List Edg} {i : Nat} (h : FInv n ars i up tr T) : tr.length = T.length := by rw [h.tree]; simp

/-- what a call of the search leaves -/
def SearchOut (w : World) (T : List Edg) (at_ fz : Nat) (last : Int) (e : Ending) (w' : World) : Prop :=
  ∃ A c p fnd, e = .returned (.tuple #[.slice A p.length c, .bool fnd]) ∧ SearchAns T at_ fz last fnd p ∧ Rd w' w'.heap.size A (cellsS p) ∧ Below w.heap.size w w'

set_option maxRecDepth 100000 in
set_option maxHeartbeats 4000000 in
theorem search_any (n : Nat) (ars : List ArcV) (T : List Edg) (hT : FInv n ars ars.length (upF n ars) (treeF n ars) T) (A : Option Addr) (l c : Nat) (hl : ars.length = l) (hx : ∀ a ∈ ars, a.fit) (hn : n ≤ 32) (h96 : l ≤ 96) (htn : (treeF n ars).length ≤ n) (At : Option Addr) (ct fz : Nat) (hfz : fz < n) :
    ∀ (f : Nat) (at_ : Nat) (last : Int) (q : List Stp) (w : World), at_ < n → fits last → Trail T at_ last q → 2 ^ T.length ≤ q.length + f → Rd w w.heap.size A (cellsA ars) → Rd w w.heap.size At (cellsI (treeF n ars)) →
    Calls Tryd.prog 43 #[.agg #[.int .i64 n, .slice A l c], .slice At (treeF n ars).length ct, .int .i64 at_, .int .i64 fz, .int .i64 last] w (SearchOut w T at_ fz last) := by
  intro f
  induction f with
  | zero =>
    intro at_ last q w _ _ htr hf _ _
    exfalso
    obtain ⟨⟨u, hu⟩, hred, _⟩ := htr
    have := long hT.forest hu hred
    omega
  | succ f ih =>
    intro at_ last q w hat hlast htr hf hr rt
    have IH := Lib.hid ih
    clear ih
    obtain ⟨i1, hj, hy0, hy1, hy2⟩ := info_parts info_step
    have b1 := (Below.refl w.heap.size w).alloc (Nat.le_refl _) (.cells #[.int .i64 n, .slice A l c] 24)
    have kb := Blk.new w _ rfl 24 #[.int .i64 n, .slice A l c]
    by_cases hend : at_ = fz
    · subst hend
      go_enter Tryd.func43, Tryd.ntmps43
      go_wp2_with fail
      go_ret2
      exact ⟨none, 0, [], true, rfl, .inl ⟨rfl, rfl, trivial, trivial⟩, .inl rfl, b1⟩
    · have hne : ((at_ : Int) == (fz : Int)) = false := by simp; omega
      have Hf := Lib.hid hf
      clear hend hf
      go_enter Tryd.func43, Tryd.ntmps43
      go_wp2_with fail
      obtain ⟨W, hW⟩ : ∃ W, w.alloc (.cells #[.int .i64 n, .slice A l c] 24) = W := ⟨_, rfl⟩
      rw [hW] at b1 kb ⊢
      clear hW
      have htf : AllFit (treeF n ars) := by
        intro y hy
        rw [hT.tree, List.mem_map] at hy
        obtain ⟨e, he, rfl⟩ := hy
        have := (hT.edge e (List.mem_reverse.1 he)).1
        unfold fits; omega
      have htl96 : (treeF n ars).length ≤ 32 := by omega
      obtain ⟨tr, htr'⟩ : ∃ tr, treeF n ars = tr := ⟨_, rfl⟩
      have HT := Lib.hid hT
      have Htr := Lib.hid htr'
      rw [htr'] at rt htf htl96 htn IH ⊢
      clear htr' htn
      go_loopw [12] (fun i wr => ∃ k : Nat, k ≤ tr.length ∧ i = .int .i64 k ∧ Below W.heap.size W wr ∧ Hid (∀ p s, Walk T at_ (s :: p) fz → Red (s :: p) → (s.1 : Int) ≠ last → (s.1 : Int) ∉ tr.take k)) (fun i _ => tr.length - (intOf i).toNat)
      case atStart => exact ⟨0, Nat.zero_le _, rfl, Below.refl _ _, fun _ _ _ _ _ h => by simp at h⟩
      case round =>
        obtain ⟨k, hk, rfl, bW, Hno⟩ := hrel
        have k2 := kb.below bW kb.lt
        have b2 := b1.trans (bW.mono b1.size)
        have n0 := k2.cell 0
        have n1 := k2.cell 1
        simp at n0 n1
        have hszw := b2.size
        have hlw : w.heap.size < wr.heap.size := k2.lt
        by_cases hlt : k < tr.length
        · obtain ⟨b, off, y, rfl, hbl, _, hcy, _, hyy⟩ := (rt.below b2 (Nat.le_refl _)).at_ htf hlt
          obtain ⟨e, he, rfl⟩ : ∃ e ∈ T, (e.i : Int) = y := by
            have := List.mem_of_getElem? hyy.out
            rw [← Htr.out, HT.out.tree, List.mem_map] at this
            obtain ⟨e, he, h⟩ := this
            exact ⟨e, List.mem_reverse.1 he, h⟩
          obtain ⟨hei, hef, het, a, ha, haf, hat'⟩ := HT.out.edge e he
          obtain ⟨b', off', a', rfl, hbl', hfa, c0, c1, c2, c3, c4, _, hae⟩ := (hr.below b2 (Nat.le_refl _)).arc (k := e.i) hx (by omega)
          obtain rfl : a' = a := by have := hae.out; rw [ha] at this; exact (Option.some.inj this).symm
          rw [haf] at c0
          rw [hat'] at c1
          have htk : tr.take (k + 1) = tr.take k ++ [(e.i : Int)] := by rw [List.take_add_one, hyy.out]; rfl
          have Htk := Lib.hid htk
          have hft := ends_ne HT.out.forest he
          have z0 : (0 : Int) ≤ (k : Int) := by omega
          have z1 : (k : Int) < (tr.length : Int) := by omega
          have z2 : (0 : Int) ≤ (e.i : Int) := by omega
          have z3 : (e.i : Int) < (l : Int) := by omega
          have He := Lib.hid he
          clear ha haf hat' hae hyy htk he
          go_upto_region 6 with fail
          go_cut [13] (fun s13 wx => ∃ ba, s13 = .pointer (some ⟨ba, 0, none⟩) ∧ Blk wx ba 44 #[.int .i64 e.f, .int .i64 e.t, .int .i64 a'.g, .int .i64 a'.k, .int .i64 a'.s] ∧ Below wr.heap.size wr wx ∧ wr.heap.size ≤ ba)
          case first =>
            have y1 := World.new_ne wr _ n1
            have y2 := World.new_ne wr _ hcy
            have y3 := World.new_ne wr _ c0
            go_region_held3 (fun w' => w'.cell? ⟨w.heap.size, 1, none⟩ = some (.slice (some ⟨b', off', none⟩) l c) ∧ w'.cell? ⟨b, off + k, none⟩ = some (.int .i64 e.i) ∧ w'.cell? ⟨b', off' + e.i * 5, none⟩ = some (.int .i64 e.f) ∧ w'.cell? ⟨b', off' + e.i * 5 + 1, none⟩ = some (.int .i64 e.t) ∧
                w'.cell? ⟨b', off' + e.i * 5 + 2, none⟩ = some (.int .i64 a'.g) ∧ w'.cell? ⟨b', off' + e.i * 5 + 3, none⟩ = some (.int .i64 a'.k) ∧ w'.cell? ⟨b', off' + e.i * 5 + 4, none⟩ = some (.int .i64 a'.s))
              (go_keep) (first | fail)
            all_goals go_wp2
            all_goals go_meet
            exact ⟨wr.heap.size, rfl, Blk.new wr _ rfl _ _, Below.drewN ((Below.refl wr.heap.size wr).alloc (Nat.le_refl _) _) 1, Nat.le_refl _⟩
          case rest =>
            obtain ⟨ba, rfl, ka, bwc, hba⟩ := hcut
            obtain ⟨wa, rfl⟩ : ∃ wa : World, wa = wc := ⟨_, rfl⟩
            have bW2 : Below W.heap.size W wa := bW.trans (bwc.mono bW.size)
            have hcy2 := (bwc.cell (p := ⟨b, off + k, none⟩) (by simp; omega)).trans hcy
            have d0 := ka.cell 0
            have d1 := ka.cell 1
            simp at d0 d1
            clear c0 c1 c2 c3 c4 hcy n0 n1
            by_cases hlas : (e.i : Int) = last
            · have q1 : ((e.i : Int) == last) = true := by simpa using hlas
              have Hno2 : Hid (∀ p s, Walk T at_ (s :: p) fz → Red (s :: p) → (s.1 : Int) ≠ last → (s.1 : Int) ∉ tr.take (k + 1)) := fun p s h1 h2 h3 h4 => by
                rw [Htk.out] at h4
                rcases List.mem_append.1 h4 with h4 | h4
                · exact Hno.out p s h1 h2 h3 h4
                · simp at h4; omega
              clear hlas Hno
              go_wp2
              go_roundw
              case rel => exact ⟨k + 1, by omega, by go_num, bW2, Hno2⟩
              case measure => simp [intOf]; omega
            · have q1 : ((e.i : Int) == last) = false := by simpa using hlas
              by_cases hfa : e.f = at_
              · have hst : stepOk T at_ e.t (e.i, false) := ⟨e, He.out, rfl, by simp [hfa]⟩
                rw [hfa] at d0 ka
                have q2 : ((e.f : Int) != (at_ : Int)) = false := by simp; omega
                have htr2 := htr.snoc hst hlas
                have hpow : ∀ p u v, Walk T u p v → Red p → p.length < 4294967296 := fun _ _ _ h1 h2 => by
                  have h3 := long HT.out.forest h1 h2
                  have h4 : T.length ≤ 32 := by rw [← tree_length HT.out, Htr.out]; exact htl96
                  exact Nat.lt_of_lt_of_le h3 (Nat.le_trans (Nat.pow_le_pow_right (by omega) h4) (by decide))
                have hlen : 2 ^ T.length ≤ (q ++ [((e.i, false) : Stp)]).length + f := by have := Hf.out; simp; omega
                have Hlen := Lib.hid hlen
                have Hpow := Lib.hid hpow
                have Hst := Lib.hid hst
                have k3 := k2.below bwc hlw
                have n0 := k3.cell 0
                have n1 := k3.cell 1
                simp at n0 n1
                have hszc := bwc.size
                have bwW : Below w.heap.size w wa := b2.trans (bwc.mono b2.size)
                have RA : ∀ W', Below wa.heap.size wa W' → Rd W' W'.heap.size (some ⟨b', off', none⟩) (cellsA ars) := fun W' hb => ((hr.below (bwW.trans (hb.mono bwW.size)) (Nat.le_refl _)).more (Nat.le_trans bwW.size hb.size))
                have RT : ∀ W', Below wa.heap.size wa W' → Rd W' W'.heap.size (some ⟨b, off, none⟩) (cellsI tr) := fun W' hb => ((rt.below (bwW.trans (hb.mono bwW.size)) (Nat.le_refl _)).more (Nat.le_trans bwW.size hb.size))
                have hbb : b < wa.heap.size := by omega
                have hlwa : w.heap.size < wa.heap.size := k3.lt
                have hfitx : fits (e.i : Int) := by unfold fits; omega
                have hbac := ka.lt
                have Hlas := Lib.hid hlas
                clear hlen hpow hst hlas hszc
                go_upto_region 11 with fail
                go_cut [15, 16] (fun s15 s16 wx => ∃ (A4 : Option Addr) (c4 : Nat) (p4 : List Stp) (fnd : Bool), s15 = .slice A4 p4.length c4 ∧ s16 = .bool fnd ∧ SearchAns T e.t fz e.i fnd p4 ∧ Rd wx wx.heap.size A4 (cellsS p4) ∧ Below wa.heap.size wa wx)
                case first =>
                  go_region_held3 (fun w' => w'.cell? ⟨w.heap.size, 0, none⟩ = some (.int .i64 n) ∧ w'.cell? ⟨w.heap.size, 1, none⟩ = some (.slice (some ⟨b', off', none⟩) l c) ∧ w'.cell? ⟨b, off + k, none⟩ = some (.int .i64 e.i))
                    (go_keep)
                    (first
                      | (go_at_call 43; refine (IH.out e.t (e.i : Int) (q ++ [(e.i, false)]) _ (by omega) hfitx htr2 Hlen.out ?_ ?_).mono ?_; exact RA _ (Below.drewN (Below.refl _ _) 1); exact RT _ (Below.drewN (Below.refl _ _) 1); rintro e' w4 ⟨A4, c4, p4, fnd, rfl, ha4, r4, hb4⟩; have q0 : w4.cell? ⟨w.heap.size, 0, none⟩ = some (.int .i64 n) := (hb4.cell (p := ⟨w.heap.size, 0, none⟩) (by simp; omega)).trans (by simp [*]); have q1 : w4.cell? ⟨w.heap.size, 1, none⟩ = some (.slice (some ⟨b', off', none⟩) l c) := (hb4.cell (p := ⟨w.heap.size, 1, none⟩) (by simp; omega)).trans (by simp [*]); have q2 : w4.cell? ⟨b, off + k, none⟩ = some (.int .i64 e.i) := (hb4.cell (p := ⟨b, off + k, none⟩) (by simp; omega)).trans (by simp [*])))
                  go_wp2
                  go_meet
                  exact ⟨A4, c4, p4, fnd, rfl, rfl, ha4, r4, (Below.drewN (Below.refl _ wa) 1).trans hb4⟩
                case rest =>
                  obtain ⟨A4, c4, p4, fnd, rfl, rfl, ha4, r4, hb4⟩ := hcut
                  cases fnd
                  · have Hno2 : Hid (∀ p s, Walk T at_ (s :: p) fz → Red (s :: p) → (s.1 : Int) ≠ last → (s.1 : Int) ∉ tr.take (k + 1)) := fun p s h1 h2 h3 h4 => by
                      rw [Htk.out] at h4
                      rcases List.mem_append.1 h4 with h4 | h4
                      · exact Hno.out p s h1 h2 h3 h4
                      · simp at h4
                        obtain ⟨m, g1, g2⟩ := h1
                        obtain ⟨rfl, rfl⟩ := step_one HT.out.forest g1 Hst.out (by simp only; omega)
                        rcases ha4 with ⟨h5, _⟩ | ⟨_, _, h5⟩
                        · cases h5
                        · refine h5 p g2 (Red.tail h2) ?_
                          cases p with
                          | nil => trivial
                          | cons s' p =>
                            intro he
                            exact h2.1 (by have h0 : (s'.1 : Int) = (e.i : Int) := he; show e.i = s'.1; omega)
                    have bW4 := bW2.trans (hb4.mono bW2.size)
                    clear ha4 r4 Hno
                    go_wp2
                    go_roundw
                    case rel => exact ⟨k + 1, by omega, by go_num, bW4, Hno2⟩
                    case measure => simp [intOf]; omega
                  · have hans : Walk T e.t p4 fz ∧ Red p4 ∧ NotFirst e.i p4 := by
                      rcases ha4 with ⟨_, h1, h2, h3⟩ | ⟨h5, _⟩
                      · exact ⟨h1, h2, h3⟩
                      · cases h5
                    have hw : Walk T at_ (((e.i, false) : Stp) :: p4) fz := ⟨e.t, Hst.out, hans.1⟩
                    have hrd : Red (((e.i, false) : Stp) :: p4) := by
                      cases p4 with
                      | nil => trivial
                      | cons s' p4 => exact ⟨fun he => hans.2.2 (by have h0 : e.i = s'.1 := he; omega), hans.2.1⟩
                    have hp4 := Hpow.out _ _ _ hans.1 hans.2.1
                    have Hw := Lib.hid hw
                    have Hrd := Lib.hid hrd
                    have k4 := ka.below hb4 hbac
                    have hcy4 := (hb4.cell (p := ⟨b, off + k, none⟩) (by simp; omega)).trans hcy2
                    have e0 := k4.cell 0
                    simp at e0
                    have hszc2 := hb4.size
                    have bw4 := bwW.trans (hb4.mono bwW.size)
                    have hb4w : b < wc.heap.size := by omega
                    clear hw hrd hans ha4 Hno n0 n1 d0 d1 hcy2
                    go_upto_region 14 with fail
                    obtain ⟨wd, rfl⟩ : ∃ wd : World, wd = wc := ⟨_, rfl⟩
                    go_region_held3 (fun w' => w'.cell? ⟨b, off + k, none⟩ = some (.int .i64 e.i) ∧ w'.cell? ⟨ba, 0, none⟩ = some (.int .i64 at_))
                      (first
                        | go_keep
                        | (go_split_ands
                           refine ⟨?_, ?_⟩
                           · (rw [hgrow.cell_far _ (by simp; omega) (by simp [Value.ownBlock])]; assumption)
                           · (rw [hgrow.cell_far _ (by simp; omega) (by simp [Value.ownBlock])]; assumption)))
                      ((refine step_append_lies _ (by rfl) _ _ _ (by rfl) wd.heap.size 39 i1 _ 2 16 Tryd.underlying27 hj hy0 hy1 hy2 rfl (by omega) (.slice none 0 0) 0 [] (by rfl) (World.ownsRow_nil _ _ _ _)
                          ⟨wd.heap.size, 0, none⟩ 1 1 [.int .i64 (e.i : Nat), .bool false] (by rfl) (by rfl) (World.news_of_block (cs := #[.int .i64 (e.i : Nat), .bool false]) (t := 39) (fr := (0, 0)) (heap_alloc_new wd _)) (by simp [Value.oneCell'])
                          (by omega) (by unfold maxLen; omega) (by omega) (by simp) (wd.heap.size + 1) (by simp) ?_; intro gg cap w1 hown1 hgrow hat2 hlt'))
                    have bd : Below wd.heap.size wd ((wd.alloc (.cells #[.int .i64 (e.i : Nat), .bool false] 39)).drew) := Below.drewN ((Below.refl wd.heap.size wd).alloc (Nat.le_refl _) _) 1
                    have bd1 := bd.grown hgrow bd.size (fun k hk => by simp [Value.ownBlock] at hk)
                    have hz1' := bd1.size
                    have r5 := r4.below bd1 (Nat.le_refl _)
                    have o1 : w1.ownsRow wd.heap.size 39 2 (.slice (some ⟨gg, 0, none⟩) 1 cap) 1 (cellsS [((e.i, false) : Stp)]) := by simpa [cellsS, stepCells] using hown1
                    have hcl := cellsS_length p4
                    have bw5 := bw4.trans (bd1.mono bw4.size)
                    have hone : ∀ u ∈ cellsS p4, u.oneCell' = true := by
                      intro u hu
                      obtain ⟨st, _, h⟩ := List.mem_flatMap.1 hu
                      exact stepCells_one st u h
                    simp only [Nat.zero_add]
                    clear hown1 hgrow hat2 hlt' r4 bd bd1 e0 hcy4 k4
                    go_wp2_with (at_builtin; refine wpList_append_rd _ rfl _ _ 27 rfl wd.heap.size 39 i1 (.agg #[.int .i64 0, .bool false]) 2 16 Tryd.underlying27 hj hy0 hy1 hy2 rfl (by decide) _ 1 (cellsS [((e.i, false) : Stp)]) rfl o1 wd.heap.size A4 p4.length c4 (cellsS p4) rfl hcl r5 hone (by unfold maxLen; omega) (by omega) hz1' ?_)
                    intro v' w6 o6 g6 _
                    obtain ⟨A6, c6, rfl, _⟩ := own_slice o6
                    have bw6 := bw5.grown g6 bw5.size (fun k hk => by have := (o1.lt k hk).1; have := bw4.size; omega)
                    have o7 : w6.ownsRow wd.heap.size 39 2 (.slice A6 (((e.i, false) : Stp) :: p4).length c6) (((e.i, false) : Stp) :: p4).length (cellsS (((e.i, false) : Stp) :: p4)) := by
                      rw [List.length_cons, Nat.add_comm]
                      exact o6
                    have r7 := rd_of_own o7
                    rw [show 1 + p4.length = p4.length + 1 from Nat.add_comm _ _]
                    clear o6 g6 o1 r5 hone hcl
                    go_wp2
                    go_ret2
                    exact ⟨A6, c6, ((e.i, false) : Stp) :: p4, true, rfl, .inl ⟨rfl, Hw.out, Hrd.out, Hlas.out⟩, r7, bw6⟩

              · by_cases hta : e.t = at_
                · have hst : stepOk T at_ e.f (e.i, true) := ⟨e, He.out, rfl, by simp [hta]⟩
                  have q2 : ((e.f : Int) != (at_ : Int)) = true := by simp; omega
                  have q3 : ((e.t : Int) != (at_ : Int)) = false := by simp; omega
                  have htr2 := htr.snoc hst hlas
                  have hpow : ∀ p u v, Walk T u p v → Red p → p.length < 4294967296 := fun _ _ _ h1 h2 => by
                    have h3 := long HT.out.forest h1 h2
                    have h4 : T.length ≤ 32 := by rw [← tree_length HT.out, Htr.out]; exact htl96
                    exact Nat.lt_of_lt_of_le h3 (Nat.le_trans (Nat.pow_le_pow_right (by omega) h4) (by decide))
                  have hlen : 2 ^ T.length ≤ (q ++ [((e.i, true) : Stp)]).length + f := by have := Hf.out; simp; omega
                  have Hlen := Lib.hid hlen
                  have Hpow := Lib.hid hpow
                  have Hst := Lib.hid hst
                  have k3 := k2.below bwc hlw
                  have n0 := k3.cell 0
                  have n1 := k3.cell 1
                  simp at n0 n1
                  have hszc := bwc.size
                  have bwW : Below w.heap.size w wa := b2.trans (bwc.mono b2.size)
                  have RA : ∀ W', Below wa.heap.size wa W' → Rd W' W'.heap.size (some ⟨b', off', none⟩) (cellsA ars) := fun W' hb => ((hr.below (bwW.trans (hb.mono bwW.size)) (Nat.le_refl _)).more (Nat.le_trans bwW.size hb.size))
                  have RT : ∀ W', Below wa.heap.size wa W' → Rd W' W'.heap.size (some ⟨b, off, none⟩) (cellsI tr) := fun W' hb => ((rt.below (bwW.trans (hb.mono bwW.size)) (Nat.le_refl _)).more (Nat.le_trans bwW.size hb.size))
                  have hbb : b < wa.heap.size := by omega
                  have hlwa : w.heap.size < wa.heap.size := k3.lt
                  have hfitx : fits (e.i : Int) := by unfold fits; omega
                  have hbac := ka.lt
                  have Hlas := Lib.hid hlas
                  clear hlen hpow hst hlas hszc
                  go_upto_region 11 with fail
                  go_cut [15, 16] (fun s15 s16 wx => ∃ (A4 : Option Addr) (c4 : Nat) (p4 : List Stp) (fnd : Bool), s15 = .slice A4 p4.length c4 ∧ s16 = .bool fnd ∧ SearchAns T e.f fz e.i fnd p4 ∧ Rd wx wx.heap.size A4 (cellsS p4) ∧ Below wa.heap.size wa wx)
                  case first =>
                    go_region_held3 (fun w' => w'.cell? ⟨w.heap.size, 0, none⟩ = some (.int .i64 n) ∧ w'.cell? ⟨w.heap.size, 1, none⟩ = some (.slice (some ⟨b', off', none⟩) l c) ∧ w'.cell? ⟨b, off + k, none⟩ = some (.int .i64 e.i))
                      (go_keep)
                      (first
                        | (go_at_call 43; refine (IH.out e.f (e.i : Int) (q ++ [(e.i, true)]) _ (by omega) hfitx htr2 Hlen.out ?_ ?_).mono ?_; exact RA _ (Below.drewN (Below.refl _ _) 1); exact RT _ (Below.drewN (Below.refl _ _) 1); rintro e' w4 ⟨A4, c4, p4, fnd, rfl, ha4, r4, hb4⟩; have q0 : w4.cell? ⟨w.heap.size, 0, none⟩ = some (.int .i64 n) := (hb4.cell (p := ⟨w.heap.size, 0, none⟩) (by simp; omega)).trans (by simp [*]); have q1 : w4.cell? ⟨w.heap.size, 1, none⟩ = some (.slice (some ⟨b', off', none⟩) l c) := (hb4.cell (p := ⟨w.heap.size, 1, none⟩) (by simp; omega)).trans (by simp [*]); have q2 : w4.cell? ⟨b, off + k, none⟩ = some (.int .i64 e.i) := (hb4.cell (p := ⟨b, off + k, none⟩) (by simp; omega)).trans (by simp [*])))
                    go_wp2
                    go_meet
                    exact ⟨A4, c4, p4, fnd, rfl, rfl, ha4, r4, (Below.drewN (Below.refl _ wa) 1).trans hb4⟩
                  case rest =>
                    obtain ⟨A4, c4, p4, fnd, rfl, rfl, ha4, r4, hb4⟩ := hcut
                    cases fnd
                    · have Hno2 : Hid (∀ p s, Walk T at_ (s :: p) fz → Red (s :: p) → (s.1 : Int) ≠ last → (s.1 : Int) ∉ tr.take (k + 1)) := fun p s h1 h2 h3 h4 => by
                        rw [Htk.out] at h4
                        rcases List.mem_append.1 h4 with h4 | h4
                        · exact Hno.out p s h1 h2 h3 h4
                        · simp at h4
                          obtain ⟨m, g1, g2⟩ := h1
                          obtain ⟨rfl, rfl⟩ := step_one HT.out.forest g1 Hst.out (by simp only; omega)
                          rcases ha4 with ⟨h5, _⟩ | ⟨_, _, h5⟩
                          · cases h5
                          · refine h5 p g2 (Red.tail h2) ?_
                            cases p with
                            | nil => trivial
                            | cons s' p =>
                              intro he
                              exact h2.1 (by have h0 : (s'.1 : Int) = (e.i : Int) := he; show e.i = s'.1; omega)
                      have bW4 := bW2.trans (hb4.mono bW2.size)
                      clear ha4 r4 Hno
                      go_wp2
                      go_roundw
                      case rel => exact ⟨k + 1, by omega, by go_num, bW4, Hno2⟩
                      case measure => simp [intOf]; omega
                    · have hans : Walk T e.f p4 fz ∧ Red p4 ∧ NotFirst e.i p4 := by
                        rcases ha4 with ⟨_, h1, h2, h3⟩ | ⟨h5, _⟩
                        · exact ⟨h1, h2, h3⟩
                        · cases h5
                      have hw : Walk T at_ (((e.i, true) : Stp) :: p4) fz := ⟨e.f, Hst.out, hans.1⟩
                      have hrd : Red (((e.i, true) : Stp) :: p4) := by
                        cases p4 with
                        | nil => trivial
                        | cons s' p4 => exact ⟨fun he => hans.2.2 (by have h0 : e.i = s'.1 := he; omega), hans.2.1⟩
                      have hp4 := Hpow.out _ _ _ hans.1 hans.2.1
                      have Hw := Lib.hid hw
                      have Hrd := Lib.hid hrd
                      have k4 := ka.below hb4 hbac
                      have hcy4 := (hb4.cell (p := ⟨b, off + k, none⟩) (by simp; omega)).trans hcy2
                      have e0 := k4.cell 0
                      simp at e0
                      have hszc2 := hb4.size
                      have bw4 := bwW.trans (hb4.mono bwW.size)
                      have hb4w : b < wc.heap.size := by omega
                      clear hw hrd hans ha4 Hno n0 n1 d0 d1 hcy2
                      go_upto_region 14 with fail
                      obtain ⟨wd, rfl⟩ : ∃ wd : World, wd = wc := ⟨_, rfl⟩
                      go_region_held3 (fun w' => w'.cell? ⟨b, off + k, none⟩ = some (.int .i64 e.i) ∧ w'.cell? ⟨ba, 0, none⟩ = some (.int .i64 e.f))
                        (first
                          | go_keep
                          | (go_split_ands
                             refine ⟨?_, ?_⟩
                             · (rw [hgrow.cell_far _ (by simp; omega) (by simp [Value.ownBlock])]; assumption)
                             · (rw [hgrow.cell_far _ (by simp; omega) (by simp [Value.ownBlock])]; assumption)))
                        ((refine step_append_lies _ (by rfl) _ _ _ (by rfl) wd.heap.size 39 i1 _ 2 16 Tryd.underlying27 hj hy0 hy1 hy2 rfl (by omega) (.slice none 0 0) 0 [] (by rfl) (World.ownsRow_nil _ _ _ _)
                            ⟨wd.heap.size, 0, none⟩ 1 1 [.int .i64 (e.i : Nat), .bool true] (by rfl) (by rfl) (World.news_of_block (cs := #[.int .i64 (e.i : Nat), .bool true]) (t := 39) (fr := (0, 0)) (heap_alloc_new wd _)) (by simp [Value.oneCell'])
                            (by omega) (by unfold maxLen; omega) (by omega) (by simp) (wd.heap.size + 1) (by simp) ?_; intro gg cap w1 hown1 hgrow hat2 hlt'))
                      have bd : Below wd.heap.size wd ((wd.alloc (.cells #[.int .i64 (e.i : Nat), .bool true] 39)).drew) := Below.drewN ((Below.refl wd.heap.size wd).alloc (Nat.le_refl _) _) 1
                      have bd1 := bd.grown hgrow bd.size (fun k hk => by simp [Value.ownBlock] at hk)
                      have hz1' := bd1.size
                      have r5 := r4.below bd1 (Nat.le_refl _)
                      have o1 : w1.ownsRow wd.heap.size 39 2 (.slice (some ⟨gg, 0, none⟩) 1 cap) 1 (cellsS [((e.i, true) : Stp)]) := by simpa [cellsS, stepCells] using hown1
                      have hcl := cellsS_length p4
                      have bw5 := bw4.trans (bd1.mono bw4.size)
                      have hone : ∀ u ∈ cellsS p4, u.oneCell' = true := by
                        intro u hu
                        obtain ⟨st, _, h⟩ := List.mem_flatMap.1 hu
                        exact stepCells_one st u h
                      simp only [Nat.zero_add]
                      clear hown1 hgrow hat2 hlt' r4 bd bd1 e0 hcy4 k4
                      go_wp2_with (at_builtin; refine wpList_append_rd _ rfl _ _ 27 rfl wd.heap.size 39 i1 (.agg #[.int .i64 0, .bool false]) 2 16 Tryd.underlying27 hj hy0 hy1 hy2 rfl (by decide) _ 1 (cellsS [((e.i, true) : Stp)]) rfl o1 wd.heap.size A4 p4.length c4 (cellsS p4) rfl hcl r5 hone (by unfold maxLen; omega) (by omega) hz1' ?_)
                      intro v' w6 o6 g6 _
                      obtain ⟨A6, c6, rfl, _⟩ := own_slice o6
                      have bw6 := bw5.grown g6 bw5.size (fun k hk => by have := (o1.lt k hk).1; have := bw4.size; omega)
                      have o7 : w6.ownsRow wd.heap.size 39 2 (.slice A6 (((e.i, true) : Stp) :: p4).length c6) (((e.i, true) : Stp) :: p4).length (cellsS (((e.i, true) : Stp) :: p4)) := by
                        rw [List.length_cons, Nat.add_comm]
                        exact o6
                      have r7 := rd_of_own o7
                      rw [show 1 + p4.length = p4.length + 1 from Nat.add_comm _ _]
                      clear o6 g6 o1 r5 hone hcl
                      go_wp2
                      go_ret2
                      exact ⟨A6, c6, ((e.i, true) : Stp) :: p4, true, rfl, .inl ⟨rfl, Hw.out, Hrd.out, Hlas.out⟩, r7, bw6⟩

                · have q2 : ((e.f : Int) != (at_ : Int)) = true := by simp; omega
                  have q3 : ((e.t : Int) != (at_ : Int)) = true := by simp; omega
                  have Hno2 : Hid (∀ p s, Walk T at_ (s :: p) fz → Red (s :: p) → (s.1 : Int) ≠ last → (s.1 : Int) ∉ tr.take (k + 1)) := fun p s h1 h2 h3 h4 => by
                    rw [Htk.out] at h4
                    rcases List.mem_append.1 h4 with h4 | h4
                    · exact Hno.out p s h1 h2 h3 h4
                    · obtain ⟨m, ⟨d, hd, g1, g2⟩, _⟩ := h1
                      have hde : d = e := same_edge HT.out.forest hd He.out (by simp at h4; omega)
                      rw [hde] at g2
                      split at g2
                      · exact hta g2.2.symm
                      · exact hfa g2.1.symm
                  clear hlas Hno hfa hta
                  go_wp2
                  go_roundw
                  case rel => exact ⟨k + 1, by omega, by go_num, bW2, Hno2⟩
                  case measure => simp [intOf]; omega
        · have hnone : ∀ q, Walk T at_ q fz → Red q → NotFirst last q → False := by
            intro q h1 h2 h3
            cases q with
            | nil => exact (by have : at_ = fz := h1; subst this; simp at hne)
            | cons s q =>
              refine Hno.out q s h1 h2 h3 ?_
              rw [List.take_of_length_le (by omega)]
              obtain ⟨m, hs, _⟩ := h1
              rw [← Htr.out]
              exact ((stepOk_iff HT.out).1 hs).1
          have Hn := Lib.hid hnone
          clear hnone Hno
          go_wp2
          go_ret2
          exact ⟨none, 0, [], false, rfl, .inr ⟨rfl, rfl, Hn.out⟩, .inl rfl, b2⟩
end Go.Proofs.YtlpmnhllnfhkdaaDoor
