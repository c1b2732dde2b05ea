/-
  simul.Run.
-/
import Derived.Test.YtdogddngiolpoaaDoorSs
namespace Go.Proofs.YtdogddngiolpoaaDoor
open Go.RowKit

/-- memory while the run's block is made -/
structure R23 (wZ : World) (B nn gs : Nat) (R : Option Addr) (rs : List Int) (cr : Nat) (Q : Option Addr) (ps : List Int) (cq : Nat) (L : Nat → Bool) (V : Nat → Value) (w : World) : Prop where
  bel : Below wZ.heap.size wZ w
  f1 : L 1 = true → L 3 = false → ∃ g, V 71 = .slice (some ⟨g, 0, none⟩) 0 0 ∧ w.ownsRow wZ.heap.size 3 1 (.slice (some ⟨g, 0, none⟩) 0 0) 0 []
  f3 : L 3 = true → w.ownsRow wZ.heap.size 3 1 (V 73) nn (cellsI rs)
  f7 : L 7 = true → ∃ gk, V 77 = .slice (some ⟨gk, 0, none⟩) nn nn ∧ w.ownsRow wZ.heap.size 3 1 (.slice (some ⟨gk, 0, none⟩) nn nn) nn (cellsI (rowF (rankF nn ps 0) nn)) ∧ ∀ b, (V 73).ownBlock = some b → b ≠ gk
  f8 : L 8 = true → V 78 = .agg #[.pointer (some ⟨gs, 0, none⟩), V 73, V 77, .slice none 0 0]
  f9 : L 9 = true → ∃ gr, V 79 = .pointer (some ⟨gr, 0, none⟩) ∧ wZ.heap.size ≤ gr ∧ Blk w gr 69 #[.pointer (some ⟨gs, 0, none⟩), V 73, V 77, .slice none 0 0]
  f10 : L 10 = true → V 16 = V 79
  e0 : L 0 = true → V 70 = .pointer (some ⟨gs, 0, none⟩)
  e2 : L 2 = true → V 72 = .slice R nn cr
  e4 : L 4 = true → V 74 = .pointer (some ⟨B, 0, none⟩)
  e5 : L 5 = true → V 75 = .int .i64 nn
  e6 : L 6 = true → V 76 = .slice Q ps.length cq
theorem R23.below {wZ w w' : World} {B nn gs : Nat} {R : Option Addr} {rs : List Int} {cr : Nat} {Q : Option Addr} {ps : List Int} {cq : Nat} {L : Nat → Bool} {V : Nat → Value} (h : R23 wZ B nn gs R rs cr Q ps cq L V w) (hb : Below w.heap.size w w') : R23 wZ B nn gs R rs cr Q ps cq L V w' :=
  { h with
    bel := h.bel.trans ⟨hb.os, hb.tape, hb.output, hb.size, fun k hk => hb.block k (by have := h.bel.size; omega)⟩
    f1 := fun h1 h2 => by obtain ⟨g, e, o⟩ := h.f1 h1 h2; exact ⟨g, e, own_below o hb⟩
    f3 := fun h1 => own_below (h.f3 h1) hb
    f7 := fun h1 => by obtain ⟨g, e, o, d⟩ := h.f7 h1; exact ⟨g, e, own_below o hb, d⟩
    f9 := fun h1 => by obtain ⟨g, e, hg, k⟩ := h.f9 h1; exact ⟨g, e, hg, k.below hb k.lt⟩ }
theorem ans_wrong {pick : (Nat → Int) → Int} {n : Int} {ars : List ArcV} {rs ps : List Int} (h : wrongF n ars rs ps ≠ 0) : ansF pick n ars rs ps = ([], []) := if_neg h
theorem run_end {fn : Func} (hf : fn.results = #[.cell 6 36, .tmp 7]) {a : Act} {w : World} {B : Nat} {u v : Value} {res : Int} {R : Ending → World → Prop} (h6 : a.tmps.getD 6 undef = .pointer (some ⟨B + 1, 0, none⟩)) (h7 : a.tmps.getD 7 undef = .int .i64 res) (hd : a.defers = []) (k : Blk w (B + 1) 36 #[u, v])
    (hR : R (.returned (.tuple #[.agg #[u, v], .int .i64 res])) w) : bodyPost Tryd.prog fn R .ret a w := by
  have t0 := k.cell 0
  have t1 := k.cell 1
  simp only [List.getElem?_toArray, List.getElem?_cons_zero, List.getElem?_cons_succ] at t0 t1
  exact bodyPost_ret (v := .tuple #[.agg #[u, v], .int .i64 res]) (by simp at h6 h7; simp [results, hf, go_sem, t0, t1, h6, h7]) hd hR
/-- the answer where something is wrong -/
theorem run_bad {w0 w : World} {B : Nat} {an : List Int × List BlkV} {u v : Value} (h : an = ([], [])) (hb : Below B w0 w) (k : Blk w (B + 1) 36 #[u, v]) :
    Blk ((w.setCell ⟨B + 1, 0, none⟩ (.slice none 0 0)).setCell ⟨B + 1, 1, none⟩ (.slice none 0 0)) (B + 1) 36 #[.slice none 0 0, .slice none 0 0] ∧
    ((w.setCell ⟨B + 1, 0, none⟩ (.slice none 0 0)).setCell ⟨B + 1, 1, none⟩ (.slice none 0 0)).ownsRow B 3 1 (.slice none 0 0) an.1.length (cellsI an.1) ∧
    ((w.setCell ⟨B + 1, 0, none⟩ (.slice none 0 0)).setCell ⟨B + 1, 1, none⟩ (.slice none 0 0)).ownsRow B 60 3 (.slice none 0 0) an.2.length (cellsB_Sr an.2) ∧
    Below B w0 ((w.setCell ⟨B + 1, 0, none⟩ (.slice none 0 0)).setCell ⟨B + 1, 1, none⟩ (.slice none 0 0)) := by
  subst h
  have kk := (k.set 0 (.slice none 0 0)).set 1 (.slice none 0 0)
  simp only [List.setIfInBounds_toArray, List.set_cons_zero, List.set_cons_succ] at kk
  exact ⟨kk, World.ownsRow_nil _ _ _ _, World.ownsRow_nil _ _ _ _, (hb.setCell (p := ⟨B + 1, 0, none⟩) (by simp) _).setCell (p := ⟨B + 1, 1, none⟩) (by simp) _⟩

set_option maxRecDepth 100000 in
set_option maxHeartbeats 4000000 in
theorem simRun_any (n : Int) (ars : List ArcV) (A : Option Addr) (l c : Nat) (rs : List Int) (R : Option Addr) (m cr : Nat) (ps : List Int) (Q : Option Addr) (q cq : Nat) (w : World) (hl : ars.length = l) (hx : ∀ a ∈ ars, a.fit) (hr : Rd w w.heap.size A (cellsA ars)) (hm : l ≤ maxLen)
    (hrs : rs.length = m) (hfr : AllFit rs) (hrr : Rd w w.heap.size R (cellsI rs)) (hmm : m ≤ maxLen) (hps : ps.length = q) (hfp : AllFit ps) (hrp : Rd w w.heap.size Q (cellsI ps)) (hqm : q * 8 ≤ 140737488351232) :
    Calls Tryd.prog 6 #[.agg #[.int .i64 n, .slice A l c], .slice R m cr, .slice Q q cq] w fun e w' => ∃ lv sv, e = .returned (.tuple #[.agg #[lv, sv], .int .i64 (wrongF n ars rs ps)]) ∧
      w'.ownsRow w.heap.size 3 1 lv (ansF (pickS ars n.toNat rs ps) n ars rs ps).1.length (cellsI (ansF (pickS ars n.toNat rs ps) n ars rs ps).1) ∧ w'.ownsRow w.heap.size 60 3 sv (ansF (pickS ars n.toNat rs ps) n ars rs ps).2.length (cellsB_Sr (ansF (pickS ars n.toNat rs ps) n ars rs ps).2) ∧ Below w.heap.size w w' := by
  subst hl hrs hps
  obtain ⟨ii, hii, hz0, hz1, hz2⟩ := info_parts info_int
  obtain ⟨B, hB⟩ : ∃ B, w.heap.size = B := ⟨_, rfl⟩
  rw [hB]
  obtain ⟨res, hres⟩ : ∃ r, wrongF n ars rs ps = r := ⟨_, rfl⟩
  obtain ⟨an, han⟩ : ∃ r, ansF (pickS ars n.toNat rs ps) n ars rs ps = r := ⟨_, rfl⟩
  have hbad : res ≠ 0 → an = ([], []) := fun h => by rw [← han]; exact ans_wrong (by rw [hres]; exact h)
  rw [hres, han]
  have Hres := Lib.hid hres
  have Han := Lib.hid han
  have Hbad := Lib.hid hbad
  clear hres han hbad
  have b1 := (Below.refl B w).alloc (by omega) (.cells #[.int .i64 n, .slice A ars.length c] 24)
  have k1 := Blk.new w B hB.symm 24 #[.int .i64 n, .slice A ars.length c]
  have b1' := b1.alloc (by simp; omega) (.cells #[.slice none 0 0, .slice none 0 0] 36)
  have k1' := k1.alloc (.cells #[.slice none 0 0, .slice none 0 0] 36)
  have kr := Blk.new (w.alloc (.cells #[.int .i64 n, .slice A ars.length c] 24)) (B + 1) (by simp; omega) 36 #[.slice none 0 0, .slice none 0 0]
  rw [hB] at hr hrr hrp
  have hz1 : ((w.alloc (.cells #[.int .i64 n, .slice A ars.length c] 24)).alloc (.cells #[.slice none 0 0, .slice none 0 0] 36)).heap.size = B + 2 := by simp; omega
  go_enter Tryd.func6, Tryd.ntmps6
  go_wp2_with fail
  generalize ((w.alloc (.cells #[.int .i64 n, .slice A ars.length c] 24)).alloc (.cells #[.slice none 0 0, .slice none 0 0] 36)) = W1 at *
  refine (holds_any n ars A ars.length c rs R rs.length cr _ rfl hx ((hr.below b1' (Nat.le_refl _)).more (by omega)) hm rfl hfr ((hrr.below b1' (Nat.le_refl _)).more (by omega)) hmm).mono ?_; rintro e w2 ⟨rfl, hb2⟩
  have b2 := b1'.trans (hb2.mono (by omega))
  have k2 := k1'.below hb2 (by omega)
  have kr2 := kr.below hb2 (by omega)
  have hzz2 := hb2.size
  rw [hz1] at hzz2
  clear b1 k1 b1' k1' kr hz1 hb2
  obtain ⟨hE, hhE⟩ : ∃ x, holdE n ars rs = x := ⟨_, rfl⟩
  obtain ⟨hBo, hhB⟩ : ∃ x, holdB n ars rs = x := ⟨_, rfl⟩
  rw [hhE, hhB]
  have HE := Lib.hid hhE
  have HB := Lib.hid hhB
  clear hhE hhB
  have y0 := kr2.cell 0
  have y1 := kr2.cell 1
  simp at y0 y1
  have z0 := kr2.frozen 0
  have z1 := kr2.frozen 1
  unfold maxLen at hmm
  by_cases hE0 : hE = 0
  · subst hE0
    cases hBo
    · have e : res = 130 := by rw [← Hres.out]; unfold wrongF; rw [if_pos HE.out, if_neg (by rw [HB.out]; simp)]
      subst e
      obtain ⟨j0, j1, j2, j3⟩ := run_bad (Hbad.out (by decide)) b2 kr2
      go_wp2_with fail
      exact run_end rfl rfl rfl rfl j0 ⟨_, _, rfl, j1, j2, j3⟩
    · obtain ⟨hck, hln, hall, -⟩ := holdB_parts HB.out
      obtain ⟨nn, rfl, hN⟩ := netOk_of hck
      have n32 := hN.n32
      have hln2 : rs.length = nn := by omega
      have hsb := sumF_bound hall
      have e : res = if 2048 < sumF rs then 5 else if nodesB (nn : Int) ps = true then 0 else 100 := by rw [← Hres.out]; unfold wrongF; rw [if_pos HE.out, if_pos HB.out]
      have E := Lib.hid e
      have Hall := Lib.hid hall
      have Hsb := Lib.hid hsb
      have Hck := Lib.hid hck
      have HN := Lib.hid hN
      clear e hall hsb hck hN
      go_wp2_with fail
      go_loopw [10, 34] (fun s i wr => ∃ k : Nat, k ≤ rs.length ∧ i = .int .i64 k ∧ s = .int .i64 (sumF (rs.take k)) ∧ wr = w2) (fun _ i _ => rs.length - (intOf i).toNat)
      case atStart => exact ⟨0, by omega, rfl, rfl, rfl⟩
      case round =>
        obtain ⟨k, hk, rfl, rfl, hw⟩ := hrel
        have hw' := hw.symm
        clear hw
        subst hw'
        have hs1 := Hsb.out k
        by_cases hlt : k < rs.length
        · obtain ⟨b, off, x, rfl, hb, hxf, hc, hd, hxx⟩ := (hrr.below b2 (Nat.le_refl _)).at_ hfr hlt
          have hst := sumF_take hxx.out
          have hs2 := Hsb.out (k + 1)
          rw [hst] at hs2
          generalize sumF (rs.take k) = S at *
          go_wp2_with fail
          refine ⟨⟨k + 1, by omega, by go_num, by rw [hst], trivial⟩, by simp [intOf]; omega⟩
        · rw [List.take_of_length_le (by omega)] at hs1 ⊢
          generalize sumF rs = S at *
          by_cases hS : 2048 < S
          · have e : res = 5 := by rw [E.out, if_pos hS]
            subst e
            obtain ⟨j0, j1, j2, j3⟩ := run_bad (Hbad.out (by decide)) b2 kr2
            go_wp2_with fail
            exact run_end rfl rfl rfl rfl j0 ⟨_, _, rfl, j1, j2, j3⟩
          · have E2 : Hid (res = if nodesB (nn : Int) ps = true then 0 else 100) := by unfold Hid; rw [E.out, if_neg hS]
            have d0 := k2.cell 0
            simp at d0
            go_wp2_with fail
            clear hlt hS hs1
            go_loopw [47] (fun i wx => ∃ j : Nat, j ≤ ps.length ∧ i = .int .i64 j ∧ wx = w2 ∧ Hid (nodesB (nn : Int) ps = nodesB (nn : Int) (ps.drop j))) (fun i _ => ps.length - (intOf i).toNat)
            case atStart => exact ⟨0, by omega, rfl, rfl, rfl⟩
            case round =>
              obtain ⟨j, hj, rfl, hw, He⟩ := hrel
              have hw' := hw.symm
              clear hw
              subst hw'
              by_cases hlt : j < ps.length
              · obtain ⟨b, off, x, rfl, hbl, hxf, hc, hd, hxx⟩ := (hrp.below b2 (Nat.le_refl _)).at_ hfp hlt
                have h1 : (0 : Int) ≤ (j : Int) := by omega
                have h2 : (j : Int) < (ps.length : Int) := by omega
                by_cases hx0 : x < 0
                · have e : res = 100 := by rw [E2.out, He.out, if_neg]; rw [hd.out]; simp [nodesB]; omega
                  subst e
                  obtain ⟨j0, j1, j2, j3⟩ := run_bad (Hbad.out (by decide)) b2 kr2
                  clear E2 E He hd hxx
                  go_wp2_with fail
                  exact run_end rfl rfl rfl rfl j0 ⟨_, _, rfl, j1, j2, j3⟩
                · by_cases hxn : (nn : Int) ≤ x
                  · have e : res = 100 := by rw [E2.out, He.out, if_neg]; rw [hd.out]; simp [nodesB]; omega
                    subst e
                    obtain ⟨j0, j1, j2, j3⟩ := run_bad (Hbad.out (by decide)) b2 kr2
                    clear E2 E He hd hxx
                    go_wp2_with fail
                    exact run_end rfl rfl rfl rfl j0 ⟨_, _, rfl, j1, j2, j3⟩
                  · have He' : Hid (nodesB (nn : Int) ps = nodesB (nn : Int) (ps.drop (j + 1))) := by
                      unfold Hid; rw [He.out]; unfold nodesB; rw [hd.out, List.all_cons, decide_eq_true (p := 0 ≤ x ∧ x < (nn : Int)) (by omega), Bool.true_and]
                    clear He hd hxx E E2
                    go_wp2_with fail
                    refine ⟨⟨j + 1, by omega, by go_num, trivial, He'⟩, by simp [intOf]; omega⟩
              · have hnp : nodesB (nn : Int) ps = true := by rw [He.out, List.drop_eq_nil_of_le (by omega)]; rfl
                have e : res = 0 := by rw [E2.out, if_pos hnp]
                subst e
                have Hnp := Lib.hid hnp
                clear hnp He E2 E
                have d1 := k2.cell 1
                simp at d1
                go_wp2_with fail
                refine (new_any_Sf nn A c ars w2 Hck.out HN.out ((hr.below b2 (Nat.le_refl _)).more (by omega))).mono ?_
                rintro e w3 ⟨s, rfl, hS, hb3, hsg⟩
                have hzz3 := hb3.size
                have b3 := b2.trans (hb3.mono (by omega))
                have k3 := k2.below hb3 (by omega)
                have kr3 := kr2.below hb3 (by omega)
                have d3 := k3.cell 0
                simp only [List.getElem?_toArray, List.getElem?_cons_zero] at d3
                have Hrr := Lib.hid ((hrr.below b3 (Nat.le_refl _)).more (B' := w3.heap.size) (by omega))
                have Hrp := Lib.hid ((hrp.below b3 (Nat.le_refl _)).more (B' := w3.heap.size) (by omega))
                have Hin : Hid (∀ x ∈ ps, 0 ≤ x ∧ x < nn) := fun x hx => by have := List.all_eq_true.1 Hnp.out x hx; simpa using this
                have HS := Lib.hid hS
                have Hb3 := Lib.hid b3
                have Hkr3 := Lib.hid kr3
                clear hr hrr hrp hx b2 k2 kr2 d0 d1 y0 y1 z0 z1 hS hb3 b3 kr3 k3
                go_wp2_with fail
                have hI0 : ∀ V, R23 w3 B nn s.gs R rs cr Q ps cq (fun _ => false) V w3.drew := fun V => by
                  have h0 := Below.drewN (Below.refl w3.heap.size w3) 1
                  constructor
                  all_goals first
                    | exact h0
                    | (intro h; cases h)
                refine wp_region_put2 [70, 71, 72, 73, 74, 75, 76, 77, 78, 79, 16] (R23 w3 B nn s.gs R rs cr Q ps cq) (by kernel_rfl) (by kernel_rfl) ?_ ?_ ?_
                · exact hI0 _
                · intro i o ho L V w1 hi hL hno h K hK
                  rcases i with _ | _ | _ | _ | _ | _ | _ | _ | _ | _ | _ | i
                  · cases ho
                    simp only [putAll, List.foldl_cons, List.foldl_nil, List.setIfInBounds_toArray, List.set_cons_zero, List.set_cons_succ]
                    clear hL hno
                    go_simp
                    refine hK (updV V 70 (.pointer (some ⟨s.gs, 0, none⟩))) _ _ (by simp [putAll, updV]) ?_
                    exact { h with e0 := fun _ => rfl }
                  · cases ho
                    clear hL
                    have l3 : L 3 = false := hno 3 (by kernel_rfl)
                    have l9 : L 9 = false := hno 9 (by kernel_rfl)
                    have l7 : L 7 = false := hno 7 (by kernel_rfl)
                    clear hno
                    simp only [putAll, List.foldl_cons, List.foldl_nil, List.setIfInBounds_toArray, List.set_cons_zero, List.set_cons_succ]
                    go_simp
                    refine hK (updV V 71 (.slice (some ⟨w1.heap.size, 0, none⟩) 0 0)) _ _ (by simp [putAll, updV]) ?_
                    have h' := h.below ((Below.refl w1.heap.size w1).alloc (Nat.le_refl _) (.cells #[] 3))
                    exact { h' with
                      f1 := fun _ _ => ⟨_, rfl, (own_empty w1 _ rfl _ _).mono h.bel.size⟩ }
                  · cases ho
                    simp only [putAll, List.foldl_cons, List.foldl_nil, List.setIfInBounds_toArray, List.set_cons_zero, List.set_cons_succ]
                    clear hL hno
                    go_simp
                    refine hK (updV V 72 (.slice R nn cr)) _ _ (by simp [putAll, updV]) ?_
                    exact { h with e2 := fun _ => rfl }
                  · cases ho
                    have e2 : V 72 = _ := h.e2 (hL ⟨2, .data⟩ (by simp) rfl)
                    obtain ⟨g1, e1', o1⟩ := h.f1 (hL ⟨1, .data⟩ (by simp) rfl) hi
                    have e1 : V 71 = _ := e1'
                    have l7 : L 7 = false := hno 7 (by kernel_rfl)
                    have l8 : L 8 = false := hno 8 (by kernel_rfl)
                    have l9 : L 9 = false := hno 9 (by kernel_rfl)
                    clear hL hno
                    have hrz := Hrr.out.below h.bel (Nat.le_refl _)
                    have hcl := cellsI_length rs
                    refine step_append_rd rfl _ _ 26 rfl w3.heap.size 3 ii (.int .i64 0) 1 8 Tryd.underlying26 hii hz0 hz1 hz2 rfl (by decide) (.slice (some ⟨g1, 0, none⟩) 0 0) 0 [] (by simp [putAll, Act.eval, e1]) o1 w3.heap.size R nn cr (cellsI rs) (by simp [putAll, Act.eval, e2]) (by rw [hcl, Nat.mul_one]; exact hln2) hrz (cellsI_one _) (by unfold maxLen; omega) (by omega) h.bel.size ?_
                    intro v' w4 o4 g4 hv4
                    rw [List.nil_append, Nat.zero_add] at o4
                    have hg1 := own_ge o1 (k := g1) rfl
                    refine hK (updV V 73 v') _ _ (by simp [putAll, Act.put, updV]) ?_
                    exact { h with
                      bel := h.bel.grown g4 h.bel.size (fun k hk => by simp only [Value.ownBlock] at hk; injection hk with hk; omega)
                      f1 := fun _ hn => (by cases hn)
                      f3 := fun _ => o4
                      f7 := fun hn => (by cases (hn.symm.trans l7))
                      f8 := fun hn => (by cases (hn.symm.trans l8))
                      f9 := fun hn => (by cases (hn.symm.trans l9)) }
                  · cases ho
                    simp only [putAll, List.foldl_cons, List.foldl_nil, List.setIfInBounds_toArray, List.set_cons_zero, List.set_cons_succ]
                    clear hL hno
                    go_simp
                    refine hK (updV V 74 (.pointer (some ⟨B, 0, none⟩))) _ _ (by simp [putAll, updV]) ?_
                    exact { h with e4 := fun _ => rfl }
                  · cases ho
                    simp only [putAll, List.foldl_cons, List.foldl_nil, List.setIfInBounds_toArray, List.set_cons_zero, List.set_cons_succ]
                    have e4 : V 74 = _ := h.e4 (hL ⟨4, .data⟩ (by simp) rfl)
                    have ct := (h.bel.cell (p := ⟨B, 0, none⟩) (by simp; omega)).trans d3
                    clear hL hno
                    go_simp
                    refine hK (updV V 75 (.int .i64 nn)) _ _ (by simp [putAll, updV, e4]) ?_
                    exact { h with e5 := fun _ => rfl }
                  · cases ho
                    simp only [putAll, List.foldl_cons, List.foldl_nil, List.setIfInBounds_toArray, List.set_cons_zero, List.set_cons_succ]
                    clear hL hno
                    go_simp
                    refine hK (updV V 76 (.slice Q ps.length cq)) _ _ (by simp [putAll, updV]) ?_
                    exact { h with e6 := fun _ => rfl }
                  · cases ho
                    have e5 : V 75 = _ := h.e5 (hL ⟨5, .data⟩ (by simp) rfl)
                    have e6 : V 76 = _ := h.e6 (hL ⟨6, .data⟩ (by simp) rfl)
                    have o3 := h.f3 (hL ⟨3, .chain⟩ (by simp) rfl)
                    have l1 : L 1 = true → L 3 = true := fun _ => hL ⟨3, .chain⟩ (by simp) rfl
                    have l8 : L 8 = false := hno 8 (by kernel_rfl)
                    have l9 : L 9 = false := hno 9 (by kernel_rfl)
                    clear hL hno
                    simp only [putAll, List.foldl_cons, List.foldl_nil, List.setIfInBounds_toArray, List.set_cons_zero, List.set_cons_succ]
                    go_simp
                    have hpz := (Hrp.out.below h.bel (Nat.le_refl _)).more h.bel.size
                    refine (ranks_any nn ps Q ps.length cq w1 n32 rfl hfp hpz hqm Hin.out).mono ?_
                    rintro e w4 ⟨gk, rfl, hgk, ok, bk⟩
                    refine hK (updV V 77 (.slice (some ⟨gk, 0, none⟩) nn nn)) _ _ (by simp [putAll, updV, e5, e6]) ?_
                    have h' := h.below bk
                    exact { h' with
                      f7 := fun _ => ⟨gk, rfl, ok.mono h.bel.size, fun b hb => by have := o3.lt b hb; omega⟩
                      f8 := fun hn => (by cases (hn.symm.trans l8))
                      f9 := fun hn => (by cases (hn.symm.trans l9)) }
                  · cases ho
                    have e0 : V 70 = _ := h.e0 (hL ⟨0, .data⟩ (by simp) rfl)
                    have o3 := h.f3 (hL ⟨3, .data⟩ (by simp) rfl)
                    obtain ⟨gk, e7, o7, hk7⟩ := h.f7 (hL ⟨7, .data⟩ (by simp) rfl)
                    obtain ⟨A3, c3, e3, _⟩ := own_slice o3
                    have l9 : L 9 = false := hno 9 (by kernel_rfl)
                    clear hL hno
                    simp only [putAll, List.foldl_cons, List.foldl_nil, List.setIfInBounds_toArray, List.set_cons_zero, List.set_cons_succ]
                    go_simp
                    refine hK (updV V 78 (.agg #[.pointer (some ⟨s.gs, 0, none⟩), V 73, V 77, .slice none 0 0])) _ _ (by simp [putAll, updV, e0, e3, e7]) ?_
                    exact { h with
                      f8 := fun _ => rfl
                      f9 := fun hn => (by cases (hn.symm.trans l9)) }
                  · cases ho
                    have e8 := h.f8 (hL ⟨8, .data⟩ (by simp) rfl)
                    have l10 : L 10 = false := hno 10 (by kernel_rfl)
                    clear hL hno
                    simp only [putAll, List.foldl_cons, List.foldl_nil, List.setIfInBounds_toArray, List.set_cons_zero, List.set_cons_succ]
                    go_simp
                    refine hK (updV V 79 (.pointer (some ⟨w1.heap.size, 0, none⟩))) _ _ (by simp [putAll, updV, e8]) ?_
                    have h' := h.below ((Below.refl w1.heap.size w1).alloc (Nat.le_refl _) (.cells #[.pointer (some ⟨s.gs, 0, none⟩), V 73, V 77, .slice none 0 0] 69))
                    exact { h' with
                      f9 := fun _ => ⟨_, rfl, h.bel.size, Blk.new w1 _ rfl _ _⟩
                      f10 := fun hn => (by cases (hn.symm.trans l10)) }
                  · cases ho
                    obtain ⟨gr, e9, hgr, kgr⟩ := h.f9 (hL ⟨9, .data⟩ (by simp) rfl)
                    clear hL hno
                    simp only [putAll, List.foldl_cons, List.foldl_nil, List.setIfInBounds_toArray, List.set_cons_zero, List.set_cons_succ]
                    go_simp
                    refine hK (updV V 16 (V 79)) _ _ (by simp [putAll, updV, e9]) ?_
                    exact { h with f10 := fun _ => rfl }
                  · simp at ho
                · clear hI0
                  intro L V w4 hL h
                  have oL := h.f3 (hL 3 (by simp))
                  obtain ⟨A3, cl, e3, _⟩ := own_slice oL
                  have hpos := HN.out.pos
                  rw [e3] at oL
                  obtain ⟨gl, rfl⟩ := own_addr oL hpos
                  obtain ⟨gk, e7, oK, hkl⟩ := h.f7 (hL 7 (by simp))
                  obtain ⟨gr, e9, hgr, kgr⟩ := h.f9 (hL 9 (by simp))
                  have e10 := h.f10 (hL 10 (by simp))
                  rw [e9] at e10
                  have hgkl := hkl gl (by rw [e3]; rfl)
                  rw [e3, e7] at kgr
                  have hbel := h.bel
                  simp only [putAll, List.foldl_cons, List.foldl_nil, List.setIfInBounds_toArray, List.set_cons_zero, List.set_cons_succ, e10]
                  have hX0 : RunX w3 w4 w2.heap.size w3.heap.size ⟨gr, gl, cl, gk⟩ s nn ars (fun _ => 0) (leftF rs fun _ => 0) (rankF nn ps 0) (.slice none 0 0) [] :=
                    ⟨(belowOnly hbel).mono (fun k _ hk => .inr (.inr hk)), kgr, own_below HS.out.tok hbel, own_below HS.out.fir hbel, by rw [rowF_reps hln2]; exact oL, oK, World.ownsRow_nil _ _ _ _, hgr, hgkl, fun b hb => by cases hb⟩
                  clear h hL oL e3 hkl e7 e9 e10 oK hgr kgr hgkl hbel
                  have HX0 := Lib.hid hX0
                  obtain ⟨r, hr⟩ : ∃ r : RM, (⟨gr, gl, cl, gk⟩ : RM) = r := ⟨_, rfl⟩
                  have hrr : gr = r.gr := by rw [← hr]
                  rw [hr] at HX0
                  subst hrr
                  clear hX0 hr
                  have hgt3 := (HS.out.tok.lt s.gt rfl).2
                  have hgf3 := (HS.out.fir.lt s.gf rfl).2
                  have hsm0 : small nn fun _ => 0 := fun j _ => by simp
                  go_wp2_with fail
                  refine (best_any nn ars (fun _ => 0) (leftF rs fun _ => 0) (rankF nn ps 0) w2.heap.size r s (.slice none 0 0) w4 HN.out hsm0 (HX0.out.run HS.out rfl hzz3)).mono ?_
                  rintro e w5 ⟨rfl, hd5⟩
                  have HX := Lib.hid (HX0.out.below (hd5.below _))
                  clear HX0 hsm0 hd5
                  go_wp2_with fail
                  go_loopg [17] (leftSum nn (leftF rs fun _ => 0)) (fun gg v wr => ∃ (F : Nat → Int) (lv : Value) (ls : List Int), v = .int .i64 (pickS ars nn rs ps F) ∧ gg = leftSum nn (leftF rs F) ∧ RunX w3 wr w2.heap.size w3.heap.size r s nn ars F (leftF rs F) (rankF nn ps 0) lv ls ∧ Hid (∀ j, j < nn → 0 ≤ F j ∧ F j ≤ repAt rs j) ∧
                    Hid (runF (pickS ars nn rs ps) (leftSum nn (leftF rs fun _ => 0)) (fun _ => 0) = (ls ++ (runF (pickS ars nn rs ps) (leftSum nn (leftF rs F)) F).1, (runF (pickS ars nn rs ps) (leftSum nn (leftF rs F)) F).2)) ∧ ls.length + leftSum nn (leftF rs F) ≤ 200000)
                  case atStart =>
                    refine ⟨_, _, [], rfl, rfl, HX.out, fun j hj => ⟨Int.le_refl _, ?_⟩, rfl, ?_⟩
                    · have := repAt_lt Hall.out (f := j) (by omega); omega
                    · have := leftSum_le (n := nn) (m := 4096) (L := leftF rs fun _ => 0) fun v hv => by have := repAt_lt Hall.out (f := v) (by omega); show repAt rs (v : Int) - 0 ≤ _; omega
                      have h32 : nn * 4096 ≤ 32 * 4096 := Nat.mul_le_mul_right _ n32
                      simp only [List.length_nil]
                      omega
                  case round =>
                    clear HX
                    obtain ⟨F, lv, ls, rfl, rfl, X, hF, hE, hlen⟩ := hrel
                    have hsm : small nn F := fun j hj => by have h1 := hF.out j hj; have h2 := repAt_lt Hall.out (f := j) (by omega); omega
                    by_cases hpk : 0 ≤ pickS ars nn rs ps F
                    · obtain ⟨v, hpv, hv, hlv, hmay⟩ := pickS_ok ars nn rs ps F hpk
                      have hgo := runF_go (pickS_ok ars nn rs ps) hpk
                      have hls := leftSum_upd (leftF rs F) v nn hv hlv
                      rw [← left_bump] at hls
                      rw [hpv, Int.toNat_natCast] at hgo
                      have hE2 : Hid (runF (pickS ars nn rs ps) (leftSum nn (leftF rs fun _ => 0)) (fun _ => 0) = ((ls ++ [(v : Int)]) ++ (runF (pickS ars nn rs ps) (leftSum nn (leftF rs (bump F v))) (bump F v)).1, (runF (pickS ars nn rs ps) (leftSum nn (leftF rs (bump F v))) (bump F v)).2)) := by
                        unfold Hid; rw [hE.out, hgo, List.append_assoc]; rfl
                      have hF2 : Hid (∀ j, j < nn → 0 ≤ bump F v j ∧ bump F v j ≤ repAt rs j) := by
                        intro j hj
                        have h1 := hF.out j hj
                        unfold bump
                        by_cases hjv : j = v
                        · subst hjv; rw [upd_self]; unfold leftF at hlv; omega
                        · rw [upd_other hjv]; exact h1
                      have hlen2 : (ls ++ [(v : Int)]).length + leftSum nn (leftF rs (bump F v)) ≤ 200000 := by simp only [List.length_append, List.length_singleton]; omega
                      have hls1 : ls.length ≤ 200000 := by omega
                      rw [hpv]
                      have hlim : 1 ≤ repAt rs v ∧ repAt rs v ≤ 4096 := repAt_lt Hall.out (f := v) (by omega)
                      have hFv := hF.out v hv
                      have hF1 : ∀ j, j < nn → 0 ≤ F j ∧ F j + (1 : Nat) ≤ 1000000 := fun j hj => by have h1 := hF.out j hj; have h2 := repAt_lt Hall.out (f := j) (by omega); omega
                      have x0 := X.blk.cell 0
                      simp only [List.getElem?_toArray, List.getElem?_cons_zero] at x0
                      have ba := (Below.refl wr.heap.size wr).alloc (Nat.le_refl _) (.cells #[.int .i64 v] 3)
                      have X1 := X.below ba
                      have S1 := X1.st HS.out rfl
                      have r1 := rd_alloc wr _ rfl 3 [Value.int .i64 v]
                      have hzr : w3.heap.size ≤ wr.heap.size := X.only.size
                      have HX1 := Lib.hid X1
                      have HS1 := Lib.hid S1
                      have Hr1 := Lib.hid r1
                      have HF1 := Lib.hid hF1
                      have Hmay := Lib.hid hmay
                      have Hlv := Lib.hid hlv
                      have Hls := Lib.hid hls
                      clear X ba X1 S1 r1 hE hF hsm hF1 hmay hgo hlv hls hpk hpv hlen
                      go_wp2_with fail
                      refine (fire_any [(v : Int)] (some ⟨wr.heap.size, 0, none⟩) 1 1 nn ars F w2.heap.size s _ rfl (fun x hx => by simp at hx; subst hx; unfold fits; omega) ((Hr1.out).more (by simp)) (by simp only [blkOf]; intro hc; injection hc with hc; omega) (by simp only [blkOf]; intro hc; injection hc with hc; omega) HN.out HF1.out HS1.out).mono ?_
                      rintro e w6 ⟨rfl, S6, O6⟩
                      obtain ⟨hf1, hf2⟩ := fire_one Hmay.out
                      rw [hf2] at S6
                      rw [hf1]
                      have X6 := HX1.out.fire O6 S6 hgt3 hgf3
                      have x1 := X6.blk.cell 1
                      simp only [List.getElem?_toArray, List.getElem?_cons_zero, List.getElem?_cons_succ] at x1
                      have cl6 := own_firCell X6.lef hv
                      have fl6 := X6.lef.frozenAt v
                      obtain ⟨lf, hlf⟩ : ∃ lf, leftF rs F v = lf := ⟨_, rfl⟩
                      have hlfb : 0 < lf ∧ lf ≤ 4096 := by rw [← hlf]; have := Hlv.out; unfold leftF at this ⊢; omega
                      rw [hlf] at cl6
                      have X7 := X6.setLeft v (lf - 1) hgt3 hgf3
                      rw [← hlf, ← left_bump, hlf] at X7
                      have X8 := X7.below ((Below.refl (w6.setCell ⟨r.gl, v, none⟩ (.int .i64 (lf - 1))).heap.size _).alloc (Nat.le_refl _) (.cells #[.int .i64 v] 3))
                      have x3 := X8.blk.cell 3
                      simp only [List.getElem?_toArray, List.getElem?_cons_zero, List.getElem?_cons_succ] at x3
                      have r8 := rd_alloc (w6.setCell ⟨r.gl, v, none⟩ (.int .i64 (lf - 1))) w6.heap.size (by simp) 3 [Value.int .i64 v]
                      have hz8 : w3.heap.size ≤ ((w6.setCell ⟨r.gl, v, none⟩ (.int .i64 (lf - 1))).alloc (.cells #[.int .i64 v] 3)).heap.size := X8.only.size
                      have y3 := X7.blk.cell 3
                      simp only [List.getElem?_toArray, List.getElem?_cons_zero, List.getElem?_cons_succ] at y3
                      have HX8 := Lib.hid X8
                      clear X6 X7 X8 S6 O6 HX1 HS1 Hr1 HF1 x0 hf1 hf2
                      go_wp2_with (at_builtin; refine wpList_append_rd _ rfl _ _ 26 rfl w3.heap.size 3 ii (.int .i64 0) 1 8 Tryd.underlying26 hii hz0 hz1 hz2 rfl (by decide) _ ls.length (cellsI ls) rfl HX8.out.lst (w6.heap.size + 1) (some ⟨w6.heap.size, 0, none⟩) 1 1 [.int .i64 v] rfl rfl r8 (by simp [Value.oneCell']) (by unfold maxLen; omega) (by omega) hz8 ?_)
                      intro v' w7 o7 g7 h7
                      have X9 := HX8.out.push (v : Int) hgt3 hgf3 g7 (by simpa using h7) o7
                      have k7 : Blk w7 r.gr 69 #[.pointer (some ⟨s.gs, 0, none⟩), .slice (some ⟨r.gl, 0, none⟩) nn r.cl, .slice (some ⟨r.gk, 0, none⟩) nn nn, lv] := HX8.out.blk.grown g7 fun hc => by
                        obtain ⟨c2, k2⟩ := own_block HX8.out.lst hc.symm
                        exact absurd (blk_ty HX8.out.blk k2) (by decide)
                      obtain ⟨A7, c7, rfl, _⟩ := own_slice o7
                      have y7 := k7.cell 3
                      simp only [List.getElem?_toArray, List.getElem?_cons_zero, List.getElem?_cons_succ] at y7
                      have z7 := k7.frozen 3
                      have HX9 := Lib.hid X9
                      clear X9 k7 o7 g7 h7 x1 cl6 fl6 hlf hlfb x3 y3 r8 hz8 HX8 hlim hFv hls1 Hlv Hmay
                      have hsm2 : small nn (bump F v) := fun j hj => by have h1 := hF2.out j hj; have h2 := repAt_lt Hall.out (f := j) (by omega); omega
                      go_wp2_with fail
                      refine (best_any nn ars (bump F v) (leftF rs (bump F v)) (rankF nn ps 0) w2.heap.size r s _ _ HN.out hsm2 (HX9.out.run HS.out rfl hzz3)).mono ?_
                      rintro e w9 ⟨rfl, hd9⟩
                      have X10 := HX9.out.below (hd9.below _)
                      have HX10 := Lib.hid X10
                      clear X10 HX9 hd9 hsm2 y7 z7
                      go_wp2_with fail
                      go_roundg (leftSum nn (leftF rs (bump F v)))
                      case measure => have := Hls.out; omega
                      case rel => exact ⟨bump F v, _, ls ++ [(v : Int)], rfl, rfl, HX10.out, hF2, hE2, hlen2⟩
                    · have hst := runF_stop (pick := pickS ars nn rs ps) hpk
                      have hE3 := hE.out
                      rw [hst] at hE3
                      rw [List.append_nil] at hE3
                      have hsgt := (HS.out.tok.lt s.gt rfl).1
                      have hsgf := (HS.out.fir.lt s.gf rfl).1
                      have bw : Below B w wr := Hb3.out.trans ⟨X.only.os, X.only.tape, X.only.output, X.only.size, fun k hk => X.only.block k (by omega) (by omega)⟩
                      have kr : Blk wr (B + 1) 36 #[.slice none 0 0, .slice none 0 0] := (X.only.block (B + 1) (by omega) (by omega)).trans Hkr3.out
                      have hzr : w3.heap.size ≤ wr.heap.size := X.only.size
                      go_wp2_with fail
                      refine (blocks_any nn ars F (leftF rs F) (rankF nn ps 0) w2.heap.size r s lv wr HN.out hsm (X.run HS.out rfl hzz3)).mono ?_
                      rintro e w9 ⟨bv, rfl, ob, hb9⟩
                      have bw9 := bw.trans (hb9.mono (by omega))
                      have kr9 := kr.below hb9 (by omega)
                      have X9 := X.below hb9
                      have han := Han.out
                      unfold ansF at han
                      rw [if_pos Hres.out, Int.toNat_natCast, hE3] at han
                      unfold endF at han
                      simp only at han
                      obtain ⟨bs, hbs⟩ : ∃ bs, blocksF ars nn F (leftF rs F) nn = bs := ⟨_, rfl⟩
                      rw [hbs] at han ob
                      obtain ⟨Ab, cb, rfl, _⟩ := own_slice ob
                      obtain ⟨Al, cl', rfl, _⟩ := own_slice X9.lst
                      have y0 := kr9.cell 0
                      have z0 := kr9.frozen 0
                      have y1 := (kr9.set 0 (.slice Al ls.length cl')).cell 1
                      have z1 := (kr9.set 0 (.slice Al ls.length cl')).frozen 1
                      have y2 := (kr9.set 0 (.slice none 0 0)).cell 1
                      have z2 := (kr9.set 0 (.slice none 0 0)).frozen 1
                      simp only [List.setIfInBounds_toArray, List.set_cons_zero, List.getElem?_toArray, List.getElem?_cons_zero, List.getElem?_cons_succ] at y0 y1 y2
                      have j1 := ((kr9.set 0 (.slice Al ls.length cl')).set 1 (.slice none 0 0))
                      have j2 := ((kr9.set 0 (.slice none 0 0)).set 1 (.slice Ab bs.length cb))
                      simp only [List.setIfInBounds_toArray, List.set_cons_zero, List.set_cons_succ] at j1 j2
                      have m1 : ∀ {e : TypeId} {size m : Nat} {v : Value} {xs : List Value} (a b : Value), w9.ownsRow B e size v m xs → e ≠ 36 → ((w9.setCell ⟨B + 1, 0, none⟩ a).setCell ⟨B + 1, 1, none⟩ b).ownsRow B e size v m xs := fun a b ho he => own_set (own_set ho kr9 he 0 a) (kr9.set 0 a) he 1 b
                      have m2 : ∀ (a b : Value), Below B w ((w9.setCell ⟨B + 1, 0, none⟩ a).setCell ⟨B + 1, 1, none⟩ b) := fun a b => (bw9.setCell (p := ⟨B + 1, 0, none⟩) (by simp) _).setCell (p := ⟨B + 1, 1, none⟩) (by simp) _
                      have x3 := X9.blk.cell 3
                      simp only [List.getElem?_toArray, List.getElem?_cons_zero, List.getElem?_cons_succ] at x3
                      have ol := X9.lst
                      have hbz := hb9.size
                      clear X X9 hE hE3 bw kr hb9 kr9 hst bw9
                      by_cases hb0 : bs = []
                      · subst hb0
                        rw [if_pos rfl] at han
                        subst han
                        go_wp2_with fail
                        exact run_end rfl rfl rfl rfl j1 ⟨_, _, rfl, m1 _ _ (ol.mono (by omega)) (by decide), World.ownsRow_nil _ _ _ _, m2 _ _⟩
                      · rw [if_neg hb0] at han
                        subst han
                        have hbl : 0 < bs.length := List.length_pos_iff.2 hb0
                        go_wp2_with fail
                        exact run_end rfl rfl rfl rfl j2 ⟨_, _, rfl, World.ownsRow_nil _ _ _ _, m1 _ _ (ob.mono (by omega)) (by decide), m2 _ _⟩
  · have e : res = hE := by rw [← Hres.out]; unfold wrongF; rw [HE.out, if_neg hE0]
    subst e
    have hqq : (res != 0) = true := by simpa using hE0
    obtain ⟨j0, j1, j2, j3⟩ := run_bad (Hbad.out hE0) b2 kr2
    go_wp2_with fail
    exact run_end rfl rfl rfl rfl j0 ⟨_, _, rfl, j1, j2, j3⟩
end Go.Proofs.YtdogddngiolpoaaDoor
