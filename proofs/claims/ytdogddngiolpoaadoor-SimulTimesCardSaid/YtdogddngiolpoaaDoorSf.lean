/-
  net.New.
-/
import Derived.Test.YtdogddngiolpoaaDoorSe2
namespace Go.Proofs.YtdogddngiolpoaaDoor
open Go.RowKit

theorem Wv.rebase {w0 w1 w : World} {B B1 : Nat} {gt : Bool → Nat} {n : Nat} {va : Value} {ars : List ArcV} {bs : List (Nat × TypeId × Array Value)} {T V : Bool → Nat → Value} {R : Bool → Nat → List Nat}
    (h : Wv w1 w B1 gt n va ars bs T V R) (h0 : Below B w0 w1) (hB : B ≤ B1) : Wv w0 w B gt n va ars bs T V R :=
  ⟨⟨h.bel.os.trans h0.os, h.bel.tape.trans h0.tape, h.bel.output.trans h0.output, Nat.le_trans h0.size h.bel.size, fun k hk => (h.bel.block k (by omega)).trans (h0.block k hk)⟩,
   h.arcs.mono hB, fun s => (h.tab s).mono hB, fun s j hj => (h.row s j hj).mono hB, h.dis, h.gtd, h.bys, h.bty⟩
/-- memory while New builds its state -/
structure NwI (w0 : World) (B n : Nat) (A : Option Addr) (c : Nat) (ars : List ArcV) (L : Nat → Bool) (V : Nat → Value) (w : World) : Prop where
  bel : Below B w0 w
  siz : B + 1 ≤ w.heap.size
  net : Blk w B 24 #[.int .i64 n, .slice A ars.length c]
  rd : Rd w B A (cellsA ars)
  f0 : L 0 = true → V 13 = .agg #[.int .i64 n, .slice A ars.length c]
  f1 : L 1 = true → ∃ gt A' c' T, V 14 = .agg #[.slice A' ars.length c', .slice (some ⟨gt false, 0, none⟩) n n, .slice (some ⟨gt true, 0, none⟩) n n] ∧ Wv w0 w B gt n (.slice A' ars.length c') ars [] T T (rowsF ars ars.length) ∧
    (L 5 = true → ∀ s j, j < n → ∀ b, (V 18).ownBlock = some b → (T s j).ownBlock ≠ some b) ∧ (L 8 = true → ∀ s j, j < n → ∀ b, (V 21).ownBlock = some b → (T s j).ownBlock ≠ some b)
  f2 : L 2 = true → V 15 = .pointer (some ⟨B, 1, none⟩)
  f3 : L 3 = true → V 16 = .slice A ars.length c
  f4 : L 4 = true → V 17 = .int .i64 ars.length
  f5 : L 5 = true → ∃ g, V 18 = .slice (some ⟨g, 0, none⟩) ars.length ars.length ∧ w.ownsRow (B + 1) 3 1 (V 18) ars.length (cellsI (rowF (fun _ => 0) ars.length))
  f6 : L 6 = true → V 19 = .pointer (some ⟨B, 0, none⟩)
  f7 : L 7 = true → V 20 = .int .i64 n
  f8 : L 8 = true → ∃ g, V 21 = .slice (some ⟨g, 0, none⟩) n n ∧ w.ownsRow (B + 1) 3 1 (V 21) n (cellsI (rowF (fun _ => 0) n))
  f9 : L 9 = true → L 1 = true ∧ L 5 = true ∧ L 8 = true ∧ ∃ a b c, V 14 = .agg #[a, b, c] ∧ V 22 = .agg #[a, b, c, V 18, V 21]
  f10 : L 10 = true → L 9 = true ∧ ∃ g a b c, V 14 = .agg #[a, b, c] ∧ V 23 = .pointer (some ⟨g, 0, none⟩) ∧ B + 1 ≤ g ∧ Blk w g 88 #[a, b, c, V 18, V 21]
  f11 : L 11 = true → L 10 = true ∧ V 5 = V 23
  fd : L 5 = true → L 8 = true → ∀ b, (V 18).ownBlock = some b → (V 21).ownBlock ≠ some b
theorem NwI.below {w0 w w' : World} {B n : Nat} {A : Option Addr} {c : Nat} {ars : List ArcV} {L : Nat → Bool} {V : Nat → Value} (h : NwI w0 B n A c ars L V w) (hb : Below w.heap.size w w') : NwI w0 B n A c ars L V w' := by
  have hs := hb.size
  have hz := h.siz
  exact { h with
    bel := ⟨hb.os.trans h.bel.os, hb.tape.trans h.bel.tape, hb.output.trans h.bel.output, Nat.le_trans h.bel.size hb.size, fun k hk => (hb.block k (by omega)).trans (h.bel.block k hk)⟩
    siz := by omega
    net := h.net.below hb h.net.lt
    rd := h.rd.below hb (by omega)
    f1 := fun h1 => by obtain ⟨gt, A', c', T, e, o, o1, o2⟩ := h.f1 h1; exact ⟨gt, A', c', T, e, o.below hb, o1, o2⟩
    f5 := fun h1 => by obtain ⟨g, e, o⟩ := h.f5 h1; exact ⟨g, e, own_below o hb⟩
    f8 := fun h1 => by obtain ⟨g, e, o⟩ := h.f8 h1; exact ⟨g, e, own_below o hb⟩
    f10 := fun h1 => by obtain ⟨l9, g, a, b, c, e, e2, hg, k⟩ := h.f10 h1; exact ⟨l9, g, a, b, c, e, e2, hg, k.below hb k.lt⟩ }
theorem NwI.alloc {w0 w : World} {B n : Nat} {A : Option Addr} {c : Nat} {ars : List ArcV} {L : Nat → Bool} {V : Nat → Value} (h : NwI w0 B n A c ars L V w) (o : Obj) : NwI w0 B n A c ars L V (w.alloc o) :=
  h.below ((Below.refl _ _).alloc (Nat.le_refl _) o)
def adrOf : Value → Option Addr
  | .slice A _ _ => A
  | _ => none
def capOf : Value → Nat
  | .slice _ _ c => c
  | _ => 0
theorem st_of_wv {w0 w : World} {B g gk gf n c' : Nat} {gt : Bool → Nat} {A' : Option Addr} {ars : List ArcV} {T : Bool → Nat → Value} {T0 F0 : Nat → Int} (hW : Wv w0 w B gt n (.slice A' ars.length c') ars [] T T (rowsF ars ars.length))
    (hk : Blk w g 88 #[.slice A' ars.length c', .slice (some ⟨gt false, 0, none⟩) n n, .slice (some ⟨gt true, 0, none⟩) n n, .slice (some ⟨gk, 0, none⟩) ars.length ars.length, .slice (some ⟨gf, 0, none⟩) n n])
    (ht : w.ownsRow B 3 1 (.slice (some ⟨gk, 0, none⟩) ars.length ars.length) ars.length (cellsI (rowF T0 ars.length))) (hf : w.ownsRow B 3 1 (.slice (some ⟨gf, 0, none⟩) n n) n (cellsI (rowF F0 n)))
    (d1 : ∀ s j, j < n → (T s j).ownBlock ≠ some gk) (d2 : ∀ s j, j < n → (T s j).ownBlock ≠ some gf) (d3 : gk ≠ gf) :
    StT w B ⟨g, gt false, gt true, gk, gf, A', c', fun j => adrOf (T false j), fun j => capOf (T false j), fun j => adrOf (T true j), fun j => capOf (T true j)⟩ n ars T0 F0 := by
  obtain ⟨ck, kk⟩ := own_block ht rfl
  obtain ⟨cf, kf⟩ := own_block hf rfl
  have tb : ∀ s, ∃ cs, Blk w (gt s) 26 cs := fun s => own_block (hW.tab s) rfl
  have ne : ∀ {a b : Nat} {e t : TypeId} {cs cs' : Array Value}, Blk w a e cs → Blk w b t cs' → e ≠ t → a ≠ b := by
    intro a b e t cs cs' h1 h2 h3 h4
    subst h4
    exact h3 (blk_ty h1 h2)
  have row : ∀ s j, j < n → ∃ A c, T s j = .slice A (rowsF ars ars.length s j).length c ∧ Rd w w.heap.size A (cellsI (ints (rowsF ars ars.length s j))) := by
    intro s j hj
    have h := hW.row s j hj
    obtain ⟨A, c, e, _⟩ := own_slice h
    rw [e] at h
    exact ⟨A, c, e, rd_of_own h⟩
  have cel : ∀ s j, j < n → w.cell? ⟨gt s, j, none⟩ = some (.slice (adrOf (T s j)) (rowsF ars ars.length s j).length (capOf (T s j))) := by
    intro s j hj
    rw [(hW.tab s).cellAt j (by omega)]
    obtain ⟨A, c, e, _⟩ := row s j hj
    simp [hj, e, adrOf, capOf]
  have red : ∀ s j, j < n → Rd w w.heap.size (adrOf (T s j)) (cellsI (ints (rowsF ars ars.length s j))) := by
    intro s j hj
    obtain ⟨A, c, e, r⟩ := row s j hj
    rw [e]; exact r
  have adr : ∀ s j, j < n → ∀ b, (T s j).ownBlock ≠ some b → blkOf (adrOf (T s j)) ≠ some b := by
    intro s j hj b h
    obtain ⟨A, c, e, r⟩ := row s j hj
    rw [e] at h ⊢
    rw [ownBlock_slice] at h
    exact h
  have arc : ∀ {b : Nat} {cs : Array Value}, Blk w b 3 cs → blkOf A' ≠ some b := by
    intro b cs hb he
    obtain ⟨c1, k1⟩ := own_block hW.arcs (b := b) (by rw [ownBlock_slice]; exact he)
    exact absurd (blk_ty k1 hb) (by decide)
  obtain ⟨c0, t0⟩ := tb false
  obtain ⟨c1, t1⟩ := tb true
  exact ⟨hk, rd_of_own hW.arcs, cel false, cel true, red false, red true, ht, hf, t0.lt, t1.lt, d3, ne hk kk (by decide), ne hk kf (by decide), ne t0 kk (by decide), ne t0 kf (by decide), ne t1 kk (by decide), ne t1 kf (by decide),
    arc kk, arc kf, fun j hj => adr false j hj _ (d1 false j hj), fun j hj => adr false j hj _ (d2 false j hj), fun j hj => adr true j hj _ (d1 true j hj), fun j hj => adr true j hj _ (d2 true j hj)⟩

set_option maxHeartbeats 4000000 in
set_option maxRecDepth 100000 in
theorem new_any_Sf (n : Nat) (A : Option Addr) (c : Nat) (ars : List ArcV) (w : World) (hC : checkF n ars = 0) (hN : NetOk n ars) (hr : Rd w w.heap.size A (cellsA ars)) :
    Calls Tryd.prog 14 #[.agg #[.int .i64 n, .slice A ars.length c]] w fun e w' => ∃ s : SM, e = .returned (.tuple #[.pointer (some ⟨s.gs, 0, none⟩), .int .i64 0]) ∧ St w' w.heap.size s n ars (fun _ => 0) ∧ Below w.heap.size w w' ∧ w.heap.size ≤ s.gs := by
  have n32 := hN.n32
  have l96 := hN.l96
  have hmk := run_make_row' (P := Tryd.prog) 26 3 (.int .i64 0) 8 Tryd.underlying26 info_int rfl .i64 .i64 n (by omega) (by omega)
  have hml := run_make_row' (P := Tryd.prog) 26 3 (.int .i64 0) 8 Tryd.underlying26 info_int rfl .i64 .i64 ars.length (by omega) (by omega)
  rw [made_ints] at hmk hml
  obtain ⟨B, hB⟩ : ∃ B, w.heap.size = B := ⟨_, rfl⟩
  rw [hB]
  go_enter Tryd.func14, Tryd.ntmps14
  go_wp2_with fail
  have b0 := (Below.refl B w).alloc (by omega) (.cells #[.int .i64 n, .slice A ars.length c] 24)
  have k0 := Blk.new w B hB.symm 24 #[.int .i64 n, .slice A ars.length c]
  have hs0 : (w.alloc (.cells #[.int .i64 n, .slice A ars.length c] 24)).heap.size = B + 1 := by simp; omega
  have r0 := (hB ▸ hr).below b0 (Nat.le_refl _)
  refine (check_any n ars A ars.length c _ rfl hN.fit (r0.more (by omega)) (by unfold maxLen; omega)).mono ?_; rintro e w1 ⟨rfl, b1⟩
  rw [hC]
  rw [hs0] at b1
  have hz1 := b1.size
  rw [hs0] at hz1
  have k1 := k0.below b1 (by omega)
  have r1 := r0.below b1 (by omega)
  have b2 := b0.trans ⟨b1.os, b1.tape, b1.output, b1.size, fun k hk => b1.block k (by omega)⟩
  clear b0 k0 r0 b1 hs0 hC hr
  go_wp2_with fail
  have hI0 : ∀ V, NwI w B n A c ars (fun _ => false) V w1.drew := fun V =>
    ⟨Below.drewN b2 1, hz1, k1, r1.below (Drawn.below _ ((Drawn.refl w1).drewN 1)) (Nat.le_refl _), (by intros; contradiction), (by intros; contradiction), (by intros; contradiction), (by intros; contradiction), (by intros; contradiction), (by intros; contradiction), (by intros; contradiction), (by intros; contradiction), (by intros; contradiction), (by intros; contradiction), (by intros; contradiction), (by intros; contradiction), (by intros; contradiction)⟩
  clear b2 hz1 k1 r1
  have HN := Lib.hid hN
  clear hN
  refine wp_region_put [13, 14, 15, 16, 17, 18, 19, 20, 21, 22, 23, 5] (NwI w B n A c ars) (by kernel_rfl) (by kernel_rfl) ?_ ?_ ?_
  · exact hI0 _
  · clear hI0
    intro i o ho L V w2 hi hL h K hK
    have d0 := h.net.cell 0
    have d1 := h.net.cell 1
    simp only [List.getElem?_toArray, List.getElem?_cons_zero, List.getElem?_cons_succ] at d0 d1
    have hsz := h.siz
    simp only [putAll, List.foldl_cons, List.foldl_nil, List.setIfInBounds_toArray, List.set_cons_zero, List.set_cons_succ]
    rcases i with _ | _ | _ | _ | _ | _ | _ | _ | _ | _ | _ | _ | i
    · cases ho
      clear hL
      go_simp
      refine hK (updV V 13 (.agg #[.int .i64 n, .slice A ars.length c])) _ _ (by simp [putAll, updV]) ?_
      exact { h with f0 := fun _ => rfl }
    · cases ho
      have e0 : V 13 = _ := h.f0 (hL ⟨0, .data⟩ (by simp) rfl)
      clear hL
      go_simp
      refine (weave_any n A c ars w2 n32 l96 HN.out (h.rd.more (by omega))).mono ?_
      rintro e w3 ⟨gt, A', c', T, rfl, hW⟩
      refine hK (updV V 14 (.agg #[.slice A' ars.length c', .slice (some ⟨gt false, 0, none⟩) n n, .slice (some ⟨gt true, 0, none⟩) n n])) _ _ (by simp [putAll, updV, e0]) ?_
      have h3 := h.below hW.bel
      exact { h3 with
        f1 := fun _ => ⟨gt, A', c', T, rfl, hW.rebase h.bel (by omega), fun h5 s j hj b hb hc => by
          obtain ⟨g, e, o⟩ := h.f5 h5
          have h6 := o.lt b hb
          have h7 := (hW.row s j hj).lt b hc
          omega, fun h8 s j hj b hb hc => by
          obtain ⟨g, e, o⟩ := h.f8 h8
          have h6 := o.lt b hb
          have h7 := (hW.row s j hj).lt b hc
          omega⟩
        f9 := fun h9 => (by cases ((h.f9 h9).1.symm.trans hi))
        f10 := fun h9 => (by cases ((h.f9 (h.f10 h9).1).1.symm.trans hi)) }
    · cases ho
      clear hL
      go_simp
      refine hK (updV V 15 (.pointer (some ⟨B, 1, none⟩))) _ _ (by simp [putAll, updV]) ?_
      exact { h with f2 := fun _ => rfl }
    · cases ho
      have e2 : V 15 = _ := h.f2 (hL ⟨2, .data⟩ (by simp) rfl)
      clear hL
      go_simp
      refine hK (updV V 16 (.slice A ars.length c)) _ _ (by simp [putAll, updV, e2]) ?_
      exact { h with f3 := fun _ => rfl }
    · cases ho
      have e3 : V 16 = _ := h.f3 (hL ⟨3, .data⟩ (by simp) rfl)
      clear hL
      go_simp
      refine hK (updV V 17 (.int .i64 ars.length)) _ _ (by simp [putAll, updV, e3]) ?_
      exact { h with f4 := fun _ => rfl }
    · cases ho
      have e4 : V 17 = _ := h.f4 (hL ⟨4, .data⟩ (by simp) rfl)
      clear hL
      go_simp
      refine hK (updV V 18 (.slice (some ⟨w2.heap.size, 0, none⟩) ars.length ars.length)) _ _ (by simp [putAll, updV, e4]) ?_
      have h' := h.alloc (.cells (cellsI (rowF (fun _ => 0) ars.length)).toArray 3)
      have o2 := (own_new_Sl w2 _ rfl 3 (cellsI (rowF (fun _ => 0) ars.length)) ars.length (by rw [cellsI_length, rowF_length]) (by unfold maxLen; omega)).mono hsz
      exact { h' with
        f5 := fun _ => ⟨_, rfl, o2⟩
        f1 := fun h1 => by
          obtain ⟨gt, A', c', T, e, o, o3, o4⟩ := h.f1 h1
          refine ⟨gt, A', c', T, e, o.below ((Below.refl _ _).alloc (Nat.le_refl _) _), fun _ s j hj b hb hc => ?_, o4⟩
          have h7 := (o.row s j hj).lt b hc
          simp only [updV_self, Value.ownBlock] at hb
          injection hb with hb
          omega
        f9 := fun h9 => (by cases ((h.f9 h9).2.1.symm.trans hi))
        f10 := fun h9 => (by cases ((h.f9 (h.f10 h9).1).2.1.symm.trans hi))
        fd := fun _ h8 b hb hc => by
          obtain ⟨g, e, o⟩ := h.f8 h8
          have := o.lt b hc
          simp only [updV_self, Value.ownBlock] at hb
          injection hb with hb
          omega }
    · cases ho
      clear hL
      go_simp
      refine hK (updV V 19 (.pointer (some ⟨B, 0, none⟩))) _ _ (by simp [putAll, updV]) ?_
      exact { h with f6 := fun _ => rfl }
    · cases ho
      have e6 : V 19 = _ := h.f6 (hL ⟨6, .data⟩ (by simp) rfl)
      clear hL
      go_simp
      refine hK (updV V 20 (.int .i64 n)) _ _ (by simp [putAll, updV, e6]) ?_
      exact { h with f7 := fun _ => rfl }
    · cases ho
      have e7 : V 20 = _ := h.f7 (hL ⟨7, .data⟩ (by simp) rfl)
      clear hL
      go_simp
      refine hK (updV V 21 (.slice (some ⟨w2.heap.size, 0, none⟩) n n)) _ _ (by simp [putAll, updV, e7]) ?_
      have h' := h.alloc (.cells (cellsI (rowF (fun _ => 0) n)).toArray 3)
      have o2 := (own_new_Sl w2 _ rfl 3 (cellsI (rowF (fun _ => 0) n)) n (by rw [cellsI_length, rowF_length]) (by unfold maxLen; omega)).mono hsz
      exact { h' with
        f8 := fun _ => ⟨_, rfl, o2⟩
        f1 := fun h1 => by
          obtain ⟨gt, A', c', T, e, o, o3, o4⟩ := h.f1 h1
          refine ⟨gt, A', c', T, e, o.below ((Below.refl _ _).alloc (Nat.le_refl _) _), o3, fun _ s j hj b hb hc => ?_⟩
          have h7 := (o.row s j hj).lt b hc
          simp only [updV_self, Value.ownBlock] at hb
          injection hb with hb
          omega
        f9 := fun h9 => (by cases ((h.f9 h9).2.2.1.symm.trans hi))
        f10 := fun h9 => (by cases ((h.f9 (h.f10 h9).1).2.2.1.symm.trans hi))
        fd := fun h5 _ b hb hc => by
          obtain ⟨g, e, o⟩ := h.f5 h5
          have := o.lt b hb
          simp only [updV_self, Value.ownBlock] at hc
          injection hc with hc
          omega }
    · cases ho
      have l1 := hL ⟨1, .data⟩ (by simp) rfl
      have l5 := hL ⟨5, .data⟩ (by simp) rfl
      have l8 := hL ⟨8, .data⟩ (by simp) rfl
      clear hL
      obtain ⟨gt, A', c', T, e1, o, o3, o4⟩ := h.f1 l1
      obtain ⟨g5, e5, o5⟩ := h.f5 l5
      obtain ⟨g8, e8, o8⟩ := h.f8 l8
      go_simp
      refine hK (updV V 22 (.agg #[.slice A' ars.length c', .slice (some ⟨gt false, 0, none⟩) n n, .slice (some ⟨gt true, 0, none⟩) n n, V 18, V 21])) _ _ (by simp [putAll, updV, e1, e5, e8]) ?_
      exact { h with
        f9 := fun _ => ⟨l1, l5, l8, _, _, _, e1, rfl⟩
        f10 := fun h10 => (by cases ((h.f10 h10).1.symm.trans hi)) }
    · cases ho
      have l9 := hL ⟨9, .data⟩ (by simp) rfl
      clear hL
      obtain ⟨l1, l5, l8, x, y, z, e14, e22⟩ := h.f9 l9
      go_simp
      refine hK (updV V 23 (.pointer (some ⟨w2.heap.size, 0, none⟩))) _ _ (by simp [putAll, updV, e22, e14]) ?_
      have h' := h.alloc (.cells #[x, y, z, V 18, V 21] 88)
      exact { h' with
        f10 := fun _ => ⟨l9, _, x, y, z, e14, rfl, hsz, Blk.new w2 _ rfl _ _⟩
        f11 := fun h11 => (by cases ((h.f11 h11).1.symm.trans hi)) }
    · cases ho
      have l10 := hL ⟨10, .data⟩ (by simp) rfl
      clear hL
      obtain ⟨l9, g, x, y, z, e14, e23, hg, k⟩ := h.f10 l10
      go_simp
      refine hK (updV V 5 (V 23)) _ _ (by simp [putAll, updV, e23, e14]) ?_
      exact { h with f11 := fun _ => ⟨l10, rfl⟩ }
    · simp at ho
  · clear hI0
    intro L V w2 hL h
    obtain ⟨gt, A', c', T, e14, hW, d1, d2⟩ := h.f1 (hL 1 (by simp))
    obtain ⟨gk, e18, o18⟩ := h.f5 (hL 5 (by simp))
    obtain ⟨gf, e21, o21⟩ := h.f8 (hL 8 (by simp))
    have d3 := h.fd (hL 5 (by simp)) (hL 8 (by simp)) gk (by rw [e18]; rfl)
    replace d1 := fun s j hj => d1 (hL 5 (by simp)) s j hj gk (by rw [e18]; rfl)
    replace d2 := fun s j hj => d2 (hL 8 (by simp)) s j hj gf (by rw [e21]; rfl)
    obtain ⟨-, gs, x, y, z, e14', e23, hgs, hks⟩ := h.f10 (hL 10 (by simp))
    have e5 := (h.f11 (hL 11 (by simp))).2
    rw [e23] at e5
    rw [e14] at e14'
    injection e14' with e14'
    obtain ⟨rfl, rfl, rfl⟩ : Value.slice A' ars.length c' = x ∧ Value.slice (some ⟨gt false, 0, none⟩) n n = y ∧ Value.slice (some ⟨gt true, 0, none⟩) n n = z := by simpa using e14'
    rw [e21] at o21 hks d3
    rw [e18] at o18 hks
    have hst := st_of_wv hW hks (o18.mono (by omega)) (o21.mono (by omega)) d1 d2 (fun hc => d3 (by rw [hc]; rfl))
    generalize hs : (⟨gs, gt false, gt true, gk, gf, A', c', fun j => adrOf (T false j), fun j => capOf (T false j), fun j => adrOf (T true j), fun j => capOf (T true j)⟩ : SM) = s at hst
    have hgs' : s.gs = gs := by rw [← hs]
    have hbel := h.bel
    have hnet := h.net
    have hrd := h.rd
    simp only [putAll, List.foldl_cons, List.foldl_nil, List.setIfInBounds_toArray, List.set_cons_zero, List.set_cons_succ, e5]
    have HS := Lib.hid hst
    rw [← hgs'] at hgs ⊢
    clear h hL hW d1 d2 d3 e14' e23 o18 o21 hks hst hs hgs' e14 e18 e21 e5
    have c0 := hnet.cell 1
    simp only [List.getElem?_toArray, List.getElem?_cons_zero, List.getElem?_cons_succ] at c0
    have Hbel := Lib.hid hbel
    have Hnet := Lib.hid hnet
    have Hrd := Lib.hid hrd
    clear hbel hnet hrd
    go_wp2_with fail
    go_loopw [27] (fun i wr => ∃ k : Nat, k ≤ ars.length ∧ i = .int .i64 k ∧ Below B w wr ∧ Rd wr B A (cellsA ars) ∧ StT wr B s n ars (fun i => if i < k then (arcAt ars i).s else 0) (fun _ => 0)) (fun i _ => ars.length - (intOf i).toNat)
    case atStart => exact ⟨0, Nat.zero_le _, rfl, Hbel.out, Hrd.out, HS.out.congr (fun i hi => by simp) (fun _ _ => rfl)⟩
    case round =>
      clear HS Hbel Hrd Hnet c0
      obtain ⟨k, hk, rfl, hb, hr, hS⟩ := hrel
      by_cases hlt : k < ars.length
      · obtain ⟨b, off, a, rfl, hbl, hf, c00, c01, c02, c03, c04, hd, hat⟩ := hr.arc HN.out.fit hlt
        have haa := arcAt_some hat.out
        have ba := (Below.refl wr.heap.size wr).alloc (Nat.le_refl _) (.cells #[.int .i64 a.f, .int .i64 a.t, .int .i64 a.g, .int .i64 a.k, .int .i64 a.s] 49)
        have ka := Blk.new wr _ rfl 49 #[.int .i64 a.f, .int .i64 a.t, .int .i64 a.g, .int .i64 a.k, .int .i64 a.s]
        have hz := hb.size
        have hb2 := hb.alloc (by omega) (.cells #[.int .i64 a.f, .int .i64 a.t, .int .i64 a.g, .int .i64 a.k, .int .i64 a.s] 49)
        have hS2 := hS.below ba
        have hr2 := hr.below ba (by omega)
        have S3 := hS2.setTok k a.s
        have ct := hS2.tokCell hlt
        rw [if_neg (Nat.lt_irrefl k)] at ct
        have fro := hS2.tok.frozenAt k
        have hgk := (hS2.tok.lt s.gt rfl).1
        have d3 := hS2.blk.cell 3
        have d4 := ka.cell 4
        simp only [List.getElem?_toArray, List.getElem?_cons_zero, List.getElem?_cons_succ] at d3 d4
        have hb3 := hb2.setCell (p := ⟨s.gt, k, none⟩) hgk (.int .i64 a.s)
        have hr3 : Rd ((wr.alloc (.cells #[.int .i64 a.f, .int .i64 a.t, .int .i64 a.g, .int .i64 a.k, .int .i64 a.s] 49)).setCell ⟨s.gt, k, none⟩ (.int .i64 a.s)) B (some ⟨b, off, none⟩) (cellsA ars) :=
          hr2.below ((Below.refl B _).setCell (p := ⟨s.gt, k, none⟩) hgk (.int .i64 a.s)) (Nat.le_refl _)
        have S4 : StT ((wr.alloc (.cells #[.int .i64 a.f, .int .i64 a.t, .int .i64 a.g, .int .i64 a.k, .int .i64 a.s] 49)).setCell ⟨s.gt, k, none⟩ (.int .i64 a.s)) B s n ars (fun i => if i < k + 1 then (arcAt ars i).s else 0) (fun _ => 0) := S3.congr (fun i hi => by
          unfold upd
          by_cases h1 : i = k
          · subst h1; rw [if_pos rfl, if_pos (by omega), haa]
          · rw [if_neg h1]
            show (if i < k then (arcAt ars i).s else 0) = _
            by_cases h2 : i < k
            · rw [if_pos h2, if_pos (by omega)]
            · rw [if_neg h2, if_neg (by omega)]) (fun _ _ => rfl)
        clear hb hb2 hS hS2 hr2 S3 hz ba ka haa hd hf
        go_wp2_with fail
        clear c00 c01 c02 c03 c04
        have h1 : (0 : Int) ≤ (k : Int) := by omega
        have h2 : (k : Int) < (ars.length : Int) := by omega
        go_region
        go_wp2
        go_roundw
        case rel => exact ⟨k + 1, by omega, by go_num, Below.drewN hb3 1, hr3.below (Drawn.below _ ((Drawn.refl _).drewN 1)) (Nat.le_refl _), S4.drawn ⟨1, rfl⟩⟩
        case measure => simp [intOf]; omega
      · obtain rfl : k = ars.length := by omega
        go_wp2_with fail
        go_ret2
        exact ⟨s, rfl, hS.congr (fun i hi => by show (if i < ars.length then (arcAt ars i).s else 0) = _; rw [if_pos hi]; simp [tokI, tokA]) (fun _ _ => rfl), hb, by omega⟩
end Go.Proofs.YtdogddngiolpoaaDoor
