/-
  net.weave: its loop, and what it answers.
-/
import Derived.Test.YtdogddngiolpoaaDoorSe
namespace Go.Proofs.YtdogddngiolpoaaDoor
open Go.RowKit

/-- the rows after the first k arcs -/
def rowsF (ars : List ArcV) (k : Nat) : Bool → Nat → List Nat := fun s j => if s then outF ars k j else intoF ars k j
theorem rowsF_zero (ars : List ArcV) : rowsF ars 0 = fun _ _ => [] := by
  funext s j
  cases s <;> simp [rowsF, outF, intoF]
theorem rowsF_succ (ars : List ArcV) (k f t : Nat) (hf : (arcAt ars k).f = f) (ht : (arcAt ars k).t = t) :
    up2 (up2 (rowsF ars k) false t (rowsF ars k false t ++ [k])) true f (up2 (rowsF ars k) false t (rowsF ars k false t ++ [k]) true f ++ [k]) = rowsF ars (k + 1) := by
  funext s j
  cases s
  · rw [up2_ne _ _ _ _ (by simp)]
    show _ = intoF ars (k + 1) j
    rw [intoF_succ, ht]
    by_cases h : j = t
    · subst h; rw [up2_self, if_pos rfl]; rfl
    · rw [up2_ne _ _ _ _ (by simp [h]), if_neg (by omega), List.append_nil]; rfl
  · show _ = outF ars (k + 1) j
    rw [outF_succ, hf]
    by_cases h : j = f
    · subst h; rw [up2_self, if_pos rfl, up2_ne _ _ _ _ (by simp)]; rfl
    · rw [up2_ne _ _ _ _ (by simp [h]), up2_ne _ _ _ _ (by simp), if_neg (by omega), List.append_nil]; rfl
set_option maxHeartbeats 4000000 in
set_option maxRecDepth 100000 in
theorem weave_any (n : Nat) (A : Option Addr) (c : Nat) (ars : List ArcV) (w : World) (n32 : n ≤ 32) (l96 : ars.length ≤ 96) (hN : NetOk n ars) (hr : Rd w w.heap.size A (cellsA ars)) :
    Calls Tryd.prog 26 #[.agg #[.int .i64 n, .slice A ars.length c]] w fun e w' => ∃ gt A' c' T, e = .returned (.agg #[.slice A' ars.length c', .slice (some ⟨gt false, 0, none⟩) n n, .slice (some ⟨gt true, 0, none⟩) n n]) ∧ Wv w w' w.heap.size gt n (.slice A' ars.length c') ars [] T T (rowsF ars ars.length) := by
  have hmk := run_make_row' (P := Tryd.prog) 83 26 (.slice none 0 0) 24 Tryd.underlying83 info_slice rfl .i64 .i64 n (by omega) (by omega)
  obtain ⟨ia, hia, za, hza, ha1, ha2, ha3⟩ := arc_parts
  obtain ⟨ii, hii, hz0, hz1, hz2⟩ := info_parts info_int
  obtain ⟨B, hB⟩ : ∃ B, w.heap.size = B := ⟨_, rfl⟩
  rw [hB]
  go_enter Tryd.func26, Tryd.ntmps26
  go_wp2_with fail
  refine wp_region_inv (fun V => ⟨#[.agg #[.int .i64 n, .slice A ars.length c], .pointer (some ⟨B, 0, none⟩), .pointer (some ⟨B + 1, 0, none⟩), V 3, undef, undef, V 6, V 7, V 8, V 9, V 10, V 11, V 12, V 13, V 14, V 15, V 16, undef, undef, undef, undef, undef, undef, undef, undef, undef, undef, undef, undef, undef, undef, undef, undef, undef, undef, undef, undef, undef, undef, undef, undef, undef, undef, undef, undef, undef, undef, undef, undef, undef, undef, undef, undef, undef, undef], []⟩) (fun _ => undef) (fun L V w1 => WvI w B B (B + 1) n A c ars L V w1) (by kernel_rfl) (by kernel_rfl) rfl ?_ ?_ ?_
  · have b1 := (Below.refl B w).alloc (by omega) (.cells #[.int .i64 n, .slice A ars.length c] 24)
    have k1 := Blk.new w B hB.symm 24 #[.int .i64 n, .slice A ars.length c]
    have b2 := b1.alloc (by simp; omega) (.cells #[.slice none 0 0, .slice none 0 0, .slice none 0 0] 85)
    have k2 := k1.alloc (.cells #[.slice none 0 0, .slice none 0 0, .slice none 0 0] 85)
    have k3 := Blk.new (w.alloc (.cells #[.int .i64 n, .slice A ars.length c] 24)) (B + 1) (by simp; omega) 85 #[.slice none 0 0, .slice none 0 0, .slice none 0 0]
    exact ⟨Below.drewN b2 1, ⟨by omega, by omega, by simp; omega⟩, k2, k3, (hB ▸ hr).below (Below.drewN b2 1) (Nat.le_refl _), (by intros; contradiction), (by intros; contradiction), (by intros; contradiction), (by intros; contradiction), (by intros; contradiction), (by intros; contradiction), (by intros; contradiction), (by intros; contradiction), (by intros; contradiction), (by intros; contradiction), (by intros; contradiction), (by intros; contradiction), (by intros; contradiction), (by intros; contradiction)⟩
  · intro i o ho L V w1 hi hL h K hK
    have d0 := h.net.cell 0
    have d1 := h.net.cell 1
    simp at d0 d1
    have hsz := h.gnr.2.2
    rcases i with _ | _ | _ | _ | _ | _ | _ | _ | _ | _ | _ | _ | _ | i
    · cases ho
      clear hL
      go_simp
      refine hK (updV V 6 (.slice (some ⟨w1.heap.size, 0, none⟩) 0 0)) _ _ rfl ?_
      have h' := h.alloc (.cells #[] 49)
      exact { h' with f0 := fun _ _ => ⟨_, rfl, (own_empty w1 _ rfl _ _).mono hsz⟩ }
    · cases ho
      clear hL
      go_simp
      refine hK (updV V 7 _) _ _ rfl ?_
      exact { h with f1 := fun _ => rfl }
    · cases ho
      have e7 := h.f1 (hL ⟨1, .data⟩ (by simp) rfl)
      clear hL
      go_simp
      refine hK (updV V 8 (.slice A ars.length c)) _ _ (by simp [updV, e7]) ?_
      exact { h with f2 := fun _ => rfl }
    · cases ho
      have e8 := h.f2 (hL ⟨2, .data⟩ (by simp) rfl)
      obtain ⟨g6, e6, o6⟩ := h.f0 (hL ⟨0, .data⟩ (by simp) rfl) hi
      have hb6 := own_ge o6 (k := g6) (by rw [e6]; rfl)
      refine step_append_rd rfl _ _ 22 rfl (B + 2) 49 ia za 5 40 Tryd.underlying22 hia hza ha1 ha2 ha3 (by decide) (V 6) 0 [] rfl o6 B A ars.length c (cellsA ars) (by exact e8) (cellsA_length ars) h.rd (cellsA_one ars) (by unfold maxLen; omega) (by omega) hsz ?_
      intro v' w2 o2 g2 hv2
      refine hK (updV V 9 v') _ _ rfl ?_
      rw [List.nil_append, Nat.zero_add] at o2
      have hg6 : (V 6).ownBlock = some g6 := by rw [e6]; rfl
      obtain ⟨c6, k6⟩ := own_block o6 hg6
      have far : ∀ {e : TypeId} {size m : Nat} {v : Value} {xs : List Value}, w1.ownsRow (B + 2) e size v m xs → e ≠ 49 → v.ownBlock = none ∨ v.ownBlock ≠ (V 6).ownBlock := by
        intro e size m v xs hx he
        refine .inr fun hc => ?_
        obtain ⟨c1, k1⟩ := own_block hx (hc.trans hg6)
        exact he (blk_ty k1 k6)
      have blkf : ∀ {g : Nat} {t : TypeId} {cs : Array Value}, Blk w1 g t cs → t ≠ 49 → Blk w2 g t cs := by
        intro g t cs hk ht
        refine hk.grown g2 fun hc => ?_
        rw [hg6] at hc
        injection hc with hc
        subst hc
        exact ht (blk_ty hk k6)
      obtain ⟨n1, n2, n3⟩ := h.gnr
      have hs2 := g2.size
      exact { h with
        bel := h.bel.grown g2 (by omega) (fun k hk => by rw [hg6] at hk; injection hk with hk; omega)
        gnr := ⟨n1, n2, by omega⟩
        net := blkf h.net (by decide)
        res := blkf h.res (by decide)
        rd := by
          rcases h.rd with hr | ⟨b, off, e, hb, hc⟩
          · exact .inl hr
          · refine .inr ⟨b, off, e, hb, fun j u hu => ?_⟩
            rw [World.cell?_of_block (w := w1) (a := ⟨b, off + j, none⟩) (g2.block b (by omega) (by rw [hg6]; intro hc; injection hc with hc; omega))]
            exact hc j u hu
        f0 := fun _ h3 => (by cases h3)
        f3 := fun _ => o2
        f6 := fun h1 => by obtain ⟨g, e, o⟩ := h.f6 h1; exact ⟨g, e, o.kept g2 (far o (by decide))⟩
        f9 := fun h1 => by obtain ⟨g, e, o⟩ := h.f9 h1; exact ⟨g, e, o.kept g2 (far o (by decide))⟩
        f10 := fun h10 => (by cases ((h.f10 h10).1.symm.trans hi))
        f11 := fun h1 h2 => by obtain ⟨g, e, hg, k⟩ := h.f11 h1 h2; exact ⟨g, e, hg, blkf k (by decide)⟩
        f12 := fun h12 => (by cases ((h.f10 (h.f12 h12).1).1.symm.trans hi)) }
    · cases ho
      clear hL
      go_simp
      refine hK (updV V 10 _) _ _ rfl ?_
      exact { h with f4 := fun _ => rfl }
    · cases ho
      have e10 := h.f4 (hL ⟨4, .data⟩ (by simp) rfl)
      clear hL
      go_simp
      refine hK (updV V 11 (.int .i64 n)) _ _ (by simp [updV, e10]) ?_
      exact { h with f5 := fun _ => rfl }
    · cases ho
      have e11 := h.f5 (hL ⟨5, .data⟩ (by simp) rfl)
      clear hL
      go_simp
      refine hK (updV V 12 (.slice (some ⟨w1.heap.size, 0, none⟩) n n)) _ _ (by simp [updV, e11]) ?_
      have h' := h.alloc (.cells (madeCells #[.slice none 0 0] n) 26)
      have o2 := (own_made w1 _ rfl n (by unfold maxLen; omega)).mono hsz
      exact { h' with
        f6 := fun _ => ⟨_, rfl, o2⟩
        f10 := fun h10 => (by cases ((h.f10 h10).2.1.symm.trans hi))
        f12 := fun h12 => (by cases ((h.f10 (h.f12 h12).1).2.1.symm.trans hi))
        fd := fun _ h9 b hb hc => by
          obtain ⟨g, e, o⟩ := h.f9 h9
          have := o.lt b hc
          simp only [updV_self, Value.ownBlock] at hb
          injection hb with hb
          omega }
    · cases ho
      clear hL
      go_simp
      refine hK (updV V 13 _) _ _ rfl ?_
      exact { h with f7 := fun _ => rfl }
    · cases ho
      have e13 := h.f7 (hL ⟨7, .data⟩ (by simp) rfl)
      clear hL
      go_simp
      refine hK (updV V 14 (.int .i64 n)) _ _ (by simp [updV, e13]) ?_
      exact { h with f8 := fun _ => rfl }
    · cases ho
      have e14 := h.f8 (hL ⟨8, .data⟩ (by simp) rfl)
      clear hL
      go_simp
      refine hK (updV V 15 (.slice (some ⟨w1.heap.size, 0, none⟩) n n)) _ _ (by simp [updV, e14]) ?_
      have h' := h.alloc (.cells (madeCells #[.slice none 0 0] n) 26)
      have o2 := (own_made w1 _ rfl n (by unfold maxLen; omega)).mono hsz
      exact { h' with
        f9 := fun _ => ⟨_, rfl, o2⟩
        f10 := fun h10 => (by cases ((h.f10 h10).2.2.1.symm.trans hi))
        f12 := fun h12 => (by cases ((h.f10 (h.f12 h12).1).2.2.1.symm.trans hi))
        fd := fun h6 _ b hb hc => by
          obtain ⟨g, e, o⟩ := h.f6 h6
          have := o.lt b hb
          simp only [updV_self, Value.ownBlock] at hc
          injection hc with hc
          omega }
    · cases ho
      have hL3 := hL ⟨3, .data⟩ (by simp) rfl
      have hL6 := hL ⟨6, .data⟩ (by simp) rfl
      have hL9 := hL ⟨9, .data⟩ (by simp) rfl
      obtain ⟨A9, c9, e9, _⟩ := own_slice (h.f3 hL3)
      obtain ⟨g12, e12, o12⟩ := h.f6 (hL ⟨6, .data⟩ (by simp) rfl)
      obtain ⟨g15, e15, o15⟩ := h.f9 (hL ⟨9, .data⟩ (by simp) rfl)
      clear hL
      go_simp
      refine hK (updV V 16 (.agg #[V 9, V 12, V 15])) _ _ (by simp [updV, e9, e12, e15]) ?_
      exact { h with
        f10 := fun _ => ⟨hL3, hL6, hL9, rfl⟩
        f12 := fun h12 => (by cases ((h.f12 h12).1.symm.trans hi)) }
    · cases ho
      clear hL
      go_simp
      refine hK (updV V 3 (.pointer (some ⟨w1.heap.size, 0, none⟩))) _ _ rfl ?_
      have h' := h.alloc (.cells #[.slice none 0 0, .slice none 0 0, .slice none 0 0] 85)
      exact { h' with
        f11 := fun _ _ => ⟨_, rfl, hsz, Blk.new w1 _ rfl _ _⟩
        f12 := fun h12 => (by cases ((h.f12 h12).2.1.symm.trans hi)) }
    · cases ho
      have l10 := hL ⟨10, .data⟩ (by simp) rfl
      have l11 := hL ⟨11, .data⟩ (by simp) rfl
      obtain ⟨l3, l6, l9, e16⟩ := h.f10 l10
      obtain ⟨g, e3, hg, k3⟩ := h.f11 l11 hi
      clear hL
      obtain ⟨A9, c9, e9, _⟩ := own_slice (h.f3 l3)
      obtain ⟨g12, e12, o12⟩ := h.f6 l6
      obtain ⟨g15, e15, o15⟩ := h.f9 l9
      have z0 := k3.frozen 0
      have z1 := (k3.set 0 (.slice A9 ars.length c9)).frozen 1
      have z2 := ((k3.set 0 (.slice A9 ars.length c9)).set 1 (.slice (some ⟨g12, 0, none⟩) n n)).frozen 2
      have y0 := k3.cell 0
      have y1 := (k3.set 0 (.slice A9 ars.length c9)).cell 1
      have y2 := ((k3.set 0 (.slice A9 ars.length c9)).set 1 (.slice (some ⟨g12, 0, none⟩) n n)).cell 2
      simp only [List.setIfInBounds_toArray, List.set_cons_zero, List.set_cons_succ, List.getElem?_toArray, List.getElem?_cons_zero, List.getElem?_cons_succ] at y0 y1 y2
      have kk := (((k3.set 0 (.slice A9 ars.length c9)).set 1 (.slice (some ⟨g12, 0, none⟩) n n)).set 2 (.slice (some ⟨g15, 0, none⟩) n n))
      simp only [List.setIfInBounds_toArray, List.set_cons_zero, List.set_cons_succ] at kk
      have hon : Only (fun k => k = g) w1 (((w1.setCell ⟨g, 0, none⟩ (.slice A9 ars.length c9)).setCell ⟨g, 1, none⟩ (.slice (some ⟨g12, 0, none⟩) n n)).setCell ⟨g, 2, none⟩ (.slice (some ⟨g15, 0, none⟩) n n)) :=
        ⟨rfl, rfl, rfl, by simp [World.setCell], fun k _ hk => by rw [Below.heap_setCell _ _ _ _ hk, Below.heap_setCell _ _ _ _ hk, Below.heap_setCell _ _ _ _ hk]⟩
      go_simp
      refine hK V _ _ (by simp [e3, e16, e9, e12, e15]) ?_
      clear hK z0 z1 z2 y0 y1 y2
      generalize ((w1.setCell ⟨g, 0, none⟩ (.slice A9 ars.length c9)).setCell ⟨g, 1, none⟩ (.slice (some ⟨g12, 0, none⟩) n n)).setCell ⟨g, 2, none⟩ (.slice (some ⟨g15, 0, none⟩) n n) = w2 at *
      have far : ∀ {e : TypeId} {size m : Nat} {v : Value} {xs : List Value}, w1.ownsRow (B + 2) e size v m xs → e ≠ 85 → w2.ownsRow (B + 2) e size v m xs := by
        intro e size m v xs hx he
        refine own_only hx hon fun b hb hc => ?_
        obtain ⟨c1, k1⟩ := own_block hx hb
        subst hc
        exact he (blk_ty k1 k3)
      obtain ⟨n1, n2, n3⟩ := h.gnr
      have hs2 := hon.size
      exact { h with
        bel := ⟨hon.os.trans h.bel.os, hon.tape.trans h.bel.tape, hon.output.trans h.bel.output, Nat.le_trans h.bel.size hs2, fun k hk => (hon.block k (by omega) (by omega)).trans (h.bel.block k hk)⟩
        gnr := ⟨n1, n2, by omega⟩
        net := (hon.block _ h.net.lt (by omega)).trans h.net
        res := (hon.block _ h.res.lt (by omega)).trans h.res
        rd := by
          rcases h.rd with hr | ⟨b', off, e, hb', hc'⟩
          · exact .inl hr
          · refine Rd.only (.inr ⟨b', off, e, hb', hc'⟩) hon (by omega) fun b hb hc => ?_
            rw [e] at hb; simp only [blkOf] at hb; injection hb with hb; omega
        f0 := fun h1 h2 => by obtain ⟨g, e, o⟩ := h.f0 h1 h2; exact ⟨g, e, far o (by decide)⟩
        f3 := fun h1 => far (h.f3 h1) (by decide)
        f6 := fun h1 => by obtain ⟨g, e, o⟩ := h.f6 h1; exact ⟨g, e, far o (by decide)⟩
        f9 := fun h1 => by obtain ⟨g, e, o⟩ := h.f9 h1; exact ⟨g, e, far o (by decide)⟩
        f11 := fun _ h2 => (by cases h2)
        f12 := fun _ => ⟨l10, l11, g, e3, hg, by rw [e9, e12, e15]; exact kk⟩ }
    · simp at ho
  · intro L V w1 hL h
    have o9 := h.f3 (hL 3 (by simp))
    obtain ⟨A9, c9, e9, _⟩ := own_slice o9
    obtain ⟨g12, e12, o12⟩ := h.f6 (hL 6 (by simp))
    obtain ⟨g15, e15, o15⟩ := h.f9 (hL 9 (by simp))
    have hne := h.fd (hL 6 (by simp)) (hL 9 (by simp)) g12 (by rw [e12]; rfl)
    obtain ⟨_, _, g, e3, hg, k3⟩ := h.f12 (hL 12 (by simp))
    have e7 := h.f1 (hL 1 (by simp))
    have e8 := h.f2 (hL 2 (by simp))
    have e10 := h.f4 (hL 4 (by simp))
    have e11 := h.f5 (hL 5 (by simp))
    have e13 := h.f7 (hL 7 (by simp))
    have e14 := h.f8 (hL 8 (by simp))
    obtain ⟨-, -, -, e16⟩ := h.f10 (hL 10 (by simp))
    obtain ⟨v6, e6⟩ : ∃ v6, V 6 = v6 := ⟨_, rfl⟩
    rw [e15] at hne
    rw [e9, e12, e15] at k3 e16
    rw [e9] at o9
    rw [e12] at o12
    rw [e15] at o15
    simp only [e3, e6, e7, e8, e9, e10, e11, e12, e13, e14, e15, e16]
    have hbel := h.bel
    have hres := h.res
    have hwv : Wv w w1 B (fun s => if s then g15 else g12) n (.slice A9 ars.length c9) ars [(g, 85, #[.slice A9 ars.length c9, .slice (some ⟨g12, 0, none⟩) n n, .slice (some ⟨g15, 0, none⟩) n n]), (B + 1, 85, #[.slice none 0 0, .slice none 0 0, .slice none 0 0])] (fun _ _ => .slice none 0 0) (fun _ _ => .slice none 0 0) (fun _ _ => []) := by
      refine ⟨hbel, o9.mono (by omega), fun s => ?_, fun s j hj => World.ownsRow_nil _ _ _ _, fun s j s' j' hj hj' hne b hb => (by cases hb), fun hc => hne (by simp only [Bool.false_eq_true, if_false, if_true] at hc; rw [hc]; rfl), ?_, ?_⟩
      · cases s
        · exact o12.mono (by omega)
        · exact o15.mono (by omega)
      · intro p hp
        simp only [List.mem_cons, List.not_mem_nil, or_false] at hp
        rcases hp with rfl | rfl
        · exact k3
        · exact hres
      · intro p hp
        simp only [List.mem_cons, List.not_mem_nil, or_false] at hp
        rcases hp with rfl | rfl <;> exact ⟨by show 85 ≠ 3; decide, by show 85 ≠ 26; decide⟩
    clear h hL o9 o12 o15 hne e3 e6 e7 e8 e9 e10 e11 e12 e13 e14 e15 e16 hbel hres
    obtain ⟨gt, hgt0, hgt1⟩ : ∃ gt : Bool → Nat, gt false = g12 ∧ gt true = g15 := ⟨fun s => if s then g15 else g12, rfl, rfl⟩
    subst hgt0 hgt1
    have hgf : (fun s => if s then gt true else gt false) = gt := by funext s; cases s <;> rfl
    rw [hgf] at hwv
    clear hgf
    have c0 := k3.cell 0
    simp only [List.getElem?_toArray, List.getElem?_cons_zero] at c0
    obtain ⟨va, hva⟩ : ∃ va, Value.slice A9 ars.length c9 = va := ⟨_, rfl⟩
    obtain ⟨bs0, hbs0⟩ : ∃ bs0, [(g, 85, #[va, .slice (some ⟨gt false, 0, none⟩) n n, .slice (some ⟨gt true, 0, none⟩) n n]), (B + 1, 85, #[.slice none 0 0, .slice none 0 0, .slice none 0 0])] = bs0 := ⟨_, rfl⟩
    rw [hva, hbs0] at hwv
    have Hva := Lib.hid hva
    have Hbs := Lib.hid hbs0
    have Hwv := Lib.hid hwv
    have HN := Lib.hid hN
    clear hva hbs0 hwv k3 hmk hN hr
    go_wp2_with fail
    clear c0
    go_loopw [20] (fun i wr => ∃ k : Nat, k ≤ ars.length ∧ i = .int .i64 k ∧ ∃ T, Wv w wr B gt n va ars bs0 T T (rowsF ars k)) (fun i _ => ars.length - (intOf i).toNat)
    case atStart => exact ⟨0, Nat.zero_le _, rfl, _, by rw [rowsF_zero]; exact Hwv.out⟩
    case round =>
      clear Hwv
      obtain ⟨k, hk, rfl, T, hT⟩ := hrel
      by_cases hlt : k < ars.length
      · have hT' := hT
        rw [← Hva.out] at hT'
        obtain ⟨b, off, a, hA9, hbl, hf, c00, c01, c02, c03, c04, hd, hat⟩ := (rd_of_own hT'.arcs).arc HN.out.fit hlt
        clear hT' hd
        have hok := HN.out.ok a (List.mem_of_getElem? hat.out)
        have haa := arcAt_some hat.out
        obtain ⟨af, at_, ag, ak, as_⟩ := a
        simp only [ArcV.ok] at hok c00 c01 c02 c03 c04
        obtain ⟨h1, h2, h3, h4, -⟩ := hok
        obtain ⟨f, rfl⟩ : ∃ f : Nat, af = f := ⟨af.toNat, by omega⟩
        obtain ⟨t, rfl⟩ : ∃ t : Nat, at_ = t := ⟨at_.toNat, by omega⟩
        have hf' : f < n := by omega
        have ht' : t < n := by omega
        clear h1 h2 h3 h4 hf
        subst hA9
        have hmk2 := Blk.new wr _ rfl 49 #[.int .i64 f, .int .i64 t, .int .i64 ag, .int .i64 ak, .int .i64 as_]
        have hT1 := hT.below ((Below.refl wr.heap.size wr).alloc (Nat.le_refl _) (.cells #[.int .i64 f, .int .i64 t, .int .i64 ag, .int .i64 ak, .int .i64 as_] 49))
        obtain ⟨ga, hga⟩ : ∃ ga, wr.heap.size = ga := ⟨_, rfl⟩
        rw [hga] at hmk2
        obtain ⟨bs, hbs⟩ : ∃ bs, (ga, 49, #[Value.int .i64 f, .int .i64 t, .int .i64 ag, .int .i64 ak, .int .i64 as_]) :: bs0 = bs := ⟨_, rfl⟩
        have hT2 := hbs ▸ hT1.cons hmk2 (by decide) (by decide)
        clear hT hT1 hmk2
        obtain ⟨W1, hW1⟩ : ∃ W1, wr.alloc (.cells #[.int .i64 f, .int .i64 t, .int .i64 ag, .int .i64 ak, .int .i64 as_] 49) = W1 := ⟨_, rfl⟩
        rw [hW1] at hT2
        have HT2 := Lib.hid hT2
        have Hbs2 := Lib.hid hbs
        have Hhat := Lib.hid haa
        clear hT2 hbs haa hat
        go_wp2_with fail
        try rw [hW1]
        clear hW1 hga c00 c01 c02 c03 c04
        have hmg : (g, 85, #[va, .slice (some ⟨gt false, 0, none⟩) n n, .slice (some ⟨gt true, 0, none⟩) n n]) ∈ bs := by rw [← Hbs2.out, ← Hbs.out]; simp
        have hma : (ga, 49, #[Value.int .i64 f, .int .i64 t, .int .i64 ag, .int .i64 ak, .int .i64 as_]) ∈ bs := by rw [← Hbs2.out]; simp
        have hB0 : B ≤ w.heap.size := by omega
        have HTd := Lib.hid (HT2.out.below (Drawn.below _ ((Drawn.refl W1).drewN 1)))
        clear HT2
        obtain ⟨R, hR⟩ : ∃ R, rowsF ars k = R := ⟨_, rfl⟩
        rw [hR] at HTd
        have hRl : ∀ s t, (R s t).length ≤ 96 := by
          intro s t
          rw [← hR]
          refine Nat.le_trans ?_ l96
          refine Nat.le_trans ?_ (Nat.le_of_lt hlt)
          cases s
          · have := List.length_filter_le (fun i => decide ((arcAt ars i).t = t)) (List.range k)
            simpa [rowsF, intoF] using this
          · have := List.length_filter_le (fun i => decide ((arcAt ars i).f = t)) (List.range k)
            simpa [rowsF, outF] using this
        have HR := Lib.hid hR
        clear hR
        have hI0 : ∀ V, RgI w B gt n va ars bs T R g ga 1 1 25 false t k (fun _ => false) V W1.drew := fun V =>
          ⟨HTd.out.bys, fun j u hj _ hu => by have := (HTd.out.tab false).cellAt j (by omega); simpa [hj, hu] using this, Nat.le_trans hB0 HTd.out.bel.size, fun _ => HTd.out, (by intros; contradiction), (by intros; contradiction), (by intros; contradiction), (by intros; contradiction), (by intros; contradiction), (by intros; contradiction), (by intros; contradiction), (by intros; contradiction), (by intros; contradiction), (by intros; contradiction), (by intros; contradiction), (by intros; contradiction), (by intros; contradiction), (by intros; contradiction), (by intros; contradiction)⟩
        have ht := ht'
        refine wp_region_put [25, 26, 27, 28, 29, 30, 31, 32, 33, 34, 35, 36, 37, 38] (RgI w B gt n va ars bs T R g ga 1 1 25 false t k) (by kernel_rfl) (by kernel_rfl) ?_ ?_ ?_
        · exact hI0 _
        · intro i o ho L V w1 hi hL h K hK
          have d0 := (h.bys _ hmg).cell 1
          have d1 := (h.bys _ hma).cell 1
          simp only [List.getElem?_toArray, List.getElem?_cons_zero, List.getElem?_cons_succ] at d0 d1
          rcases i with _ | _ | _ | _ | _ | _ | _ | _ | _ | _ | _ | _ | _ | _ | _ | i
          · cases ho
            simp only [putAll, List.foldl_cons, List.foldl_nil, List.setIfInBounds_toArray, List.set_cons_zero, List.set_cons_succ]
            clear hL
            go_simp
            refine hK (updV V 25 (.pointer (some ⟨g, 1, none⟩))) _ _ (by simp [putAll, updV]) ?_
            exact { h with e0 := fun _ => rfl }
          · cases ho
            simp only [putAll, List.foldl_cons, List.foldl_nil, List.setIfInBounds_toArray, List.set_cons_zero, List.set_cons_succ]
            have e0 : V 25 = _ := h.e0 (hL ⟨0, .data⟩ (by simp) rfl)
            clear hL
            go_simp
            refine hK (updV V 26 (.slice (some ⟨gt false, 0, none⟩) n n)) _ _ (by simp [putAll, updV, e0]) ?_
            exact { h with e1 := fun _ => rfl }
          · cases ho
            simp only [putAll, List.foldl_cons, List.foldl_nil, List.setIfInBounds_toArray, List.set_cons_zero, List.set_cons_succ]
            clear hL
            go_simp
            refine hK (updV V 27 (.pointer (some ⟨ga, 1, none⟩))) _ _ (by simp [putAll, updV]) ?_
            exact { h with e2 := fun _ => rfl }
          · cases ho
            simp only [putAll, List.foldl_cons, List.foldl_nil, List.setIfInBounds_toArray, List.set_cons_zero, List.set_cons_succ]
            have e2 : V 27 = _ := h.e2 (hL ⟨2, .data⟩ (by simp) rfl)
            clear hL
            go_simp
            refine hK (updV V 28 (.int .i64 t)) _ _ (by simp [putAll, updV, e2]) ?_
            exact { h with e3 := fun _ => rfl }
          · cases ho
            simp only [putAll, List.foldl_cons, List.foldl_nil, List.setIfInBounds_toArray, List.set_cons_zero, List.set_cons_succ]
            clear hL
            go_simp
            refine hK (updV V 29 (.pointer (some ⟨g, 1, none⟩))) _ _ (by simp [putAll, updV]) ?_
            exact { h with e4 := fun _ => rfl }
          · cases ho
            simp only [putAll, List.foldl_cons, List.foldl_nil, List.setIfInBounds_toArray, List.set_cons_zero, List.set_cons_succ]
            have e4 : V 29 = _ := h.e4 (hL ⟨4, .data⟩ (by simp) rfl)
            clear hL
            go_simp
            refine hK (updV V 30 (.slice (some ⟨gt false, 0, none⟩) n n)) _ _ (by simp [putAll, updV, e4]) ?_
            exact { h with e5 := fun _ => rfl }
          · cases ho
            simp only [putAll, List.foldl_cons, List.foldl_nil, List.setIfInBounds_toArray, List.set_cons_zero, List.set_cons_succ]
            clear hL
            go_simp
            refine hK (updV V 31 (.pointer (some ⟨ga, 1, none⟩))) _ _ (by simp [putAll, updV]) ?_
            exact { h with e6 := fun _ => rfl }
          · cases ho
            simp only [putAll, List.foldl_cons, List.foldl_nil, List.setIfInBounds_toArray, List.set_cons_zero, List.set_cons_succ]
            have e6 : V 31 = _ := h.e6 (hL ⟨6, .data⟩ (by simp) rfl)
            clear hL
            go_simp
            refine hK (updV V 32 (.int .i64 t)) _ _ (by simp [putAll, updV, e6]) ?_
            exact { h with e7 := fun _ => rfl }
          · cases ho
            simp only [putAll, List.foldl_cons, List.foldl_nil, List.setIfInBounds_toArray, List.set_cons_zero, List.set_cons_succ]
            have e5 : V 30 = _ := h.e5 (hL ⟨5, .data⟩ (by simp) rfl)
            have e7 : V 32 = _ := h.e7 (hL ⟨7, .data⟩ (by simp) rfl)
            clear hL
            go_simp
            refine hK (updV V 33 (.pointer (some ⟨gt false, t, none⟩))) _ _ (by simp [putAll, updV, e5, e7]) ?_
            exact { h with e8 := fun _ => rfl }
          · cases ho
            simp only [putAll, List.foldl_cons, List.foldl_nil, List.setIfInBounds_toArray, List.set_cons_zero, List.set_cons_succ]
            have e8 : V 33 = _ := h.e8 (hL ⟨8, .data⟩ (by simp) rfl)
            have h14 : L 14 = false := by
              cases h14 : L 14 with
              | false => rfl
              | true => exact (by cases ((h.p1 (h.p2 h14).1).2.1.symm.trans hi))
            have ct := h.tab t _ ht h14 rfl
            clear hL
            go_simp
            refine hK (updV V 34 (T false t)) _ _ (by simp [putAll, updV, e8]) ?_
            exact { h with e9 := fun _ => rfl, p1 := fun h12 => (by cases ((h.p1 h12).2.1.symm.trans hi)) }
          · cases ho
            simp only [putAll, List.foldl_cons, List.foldl_nil, List.setIfInBounds_toArray, List.set_cons_zero, List.set_cons_succ]
            clear hL
            go_simp
            refine hK (updV V 35 (.int .i64 k)) _ _ (by simp [putAll, updV]) ?_
            exact { h with e10 := fun _ => rfl }
          · cases ho
            simp only [putAll, List.foldl_cons, List.foldl_nil, List.setIfInBounds_toArray, List.set_cons_zero, List.set_cons_succ]
            have e10 : V 35 = _ := h.e10 (hL ⟨10, .data⟩ (by simp) rfl)
            clear hL
            have l12 : L 12 = false := by
              cases h12 : L 12 with
              | false => rfl
              | true => exact (by cases ((h.p1 h12).1.symm.trans hi))
            have hb := (Below.refl w1.heap.size w1).alloc (Nat.le_refl _) (.cells #[.int .i64 k] 3)
            have h0 := (h.p0 l12).below hb
            have hnew := (Blk.new w1 _ rfl 3 #[.int .i64 k]).cell 0
            go_simp
            refine hK (updV V 36 (.slice (some ⟨w1.heap.size, 0, none⟩) 1 1)) _ _ (by simp [putAll, updV, e10]) ?_
            exact { h with
              bys := h0.bys
              tab := fun j u hj _ hu => by rw [(h0.tab false).cellAt j (by omega)]; simp [hj, hu]
              siz := by have := h.siz; simp; omega
              p0 := fun _ => h0
              p1 := fun h12 => (by cases (h12.symm.trans l12))
              p2 := fun h14 => (by cases ((h.p2 h14).1.symm.trans l12))
              b := fun _ _ => ⟨_, rfl, by simp, hnew⟩ }
          · cases ho
            have e9 : V 34 = _ := h.e9 (hL ⟨9, .data⟩ (by simp) rfl)
            obtain ⟨gb, e11', hgb, hcb⟩ := h.b (hL ⟨11, .data⟩ (by simp) rfl) hi
            have e11 : V 36 = _ := e11'
            have h0 := h.p0 hi
            have l9 := hL ⟨9, .data⟩ (by simp) rfl
            have l11 := hL ⟨11, .data⟩ (by simp) rfl
            have l14 : L 14 = false := by
              cases h14 : L 14 with
              | false => rfl
              | true => exact (by cases ((h.p2 h14).1.symm.trans hi))
            clear hL
            have hlen := hRl false t
            refine step_append_rd rfl _ _ 26 rfl B 3 ii (.int .i64 0) 1 8 Tryd.underlying26 hii hz0 hz1 hz2 rfl (by decide) (T false t) (R false t).length _ (by simp [putAll, Act.eval, e9]) (h0.row false t ht) w1.heap.size (some ⟨gb, 0, none⟩) 1 1 [.int .i64 k] (by simp [putAll, Act.eval, e11]) rfl (.inr ⟨gb, 0, rfl, hgb, fun j u hu => ?_⟩) (by simp [Value.oneCell']) (by unfold maxLen; omega) (by omega) h.siz ?_
            · cases j with
              | zero => simp at hu; subst hu; exact hcb
              | succ j => simp at hu
            intro v' w2 o2 g2 hv2
            have h1 := h0.append hB0 false t ht v' k g2 hv2 o2
            refine hK (updV V 37 v') _ _ (by simp [putAll, Act.put, updV]) ?_
            have hs2 := g2.size
            exact { h with
              bys := h1.bys
              tab := fun j u hj _ hu => by rw [(h1.tab false).cellAt j (by omega)]; simp [hj, hu]
              siz := by have := h.siz; omega
              p0 := fun hn => (by cases hn)
              p1 := fun _ => ⟨l11, l9, fun _ => h1⟩
              p2 := fun h14 => (by cases (h14.symm.trans l14))
              b := fun _ hn => (by cases hn) }
          · cases ho
            simp only [putAll, List.foldl_cons, List.foldl_nil, List.setIfInBounds_toArray, List.set_cons_zero, List.set_cons_succ]
            have e1 : V 26 = _ := h.e1 (hL ⟨1, .data⟩ (by simp) rfl)
            have e3 : V 28 = _ := h.e3 (hL ⟨3, .data⟩ (by simp) rfl)
            clear hL
            go_simp
            refine hK (updV V 38 (.pointer (some ⟨gt false, t, none⟩))) _ _ (by simp [putAll, updV, e1, e3]) ?_
            exact { h with e13 := fun _ => rfl }
          · cases ho
            simp only [putAll, List.foldl_cons, List.foldl_nil, List.setIfInBounds_toArray, List.set_cons_zero, List.set_cons_succ]
            have l12 := hL ⟨12, .data⟩ (by simp) rfl
            have e13 : V 38 = _ := h.e13 (hL ⟨13, .data⟩ (by simp) rfl)
            clear hL
            have h1 : Wv w w1 B gt n va ars bs T (up2 T false t (V 37)) (up2 R false t (R false t ++ [k])) := (h.p1 l12).2.2 hi
            have hrow := h1.row false t ht
            rw [up2_self, up2_self] at hrow
            simp only [List.length_append, List.length_singleton] at hrow
            obtain ⟨A12, c12, e12, _⟩ := own_slice hrow
            rw [e12] at h1
            have y0 := h.tab t _ ht hi rfl
            have z0 := (h1.tab false).frozenAt t
            have h2 := h1.store false t (.slice A12 ((R false t).length + 1) c12)
            go_simp
            refine hK V _ _ (by simp [putAll, e13, e12]) ?_
            exact { h with
              bys := h2.bys
              tab := fun _ _ _ hn _ => (by cases hn)
              siz := by have := h.siz; simpa [World.setCell] using this
              p0 := fun hn => (by cases (l12.symm.trans hn))
              p1 := fun _ => ⟨(h.p1 l12).1, (h.p1 l12).2.1, fun hn => (by cases hn)⟩
              p2 := fun _ => ⟨l12, _, h2⟩
              b := fun _ hn => (by cases (l12.symm.trans hn)) }
          · simp at ho
        clear hI0 HTd ht
        intro L V w2 hL h
        obtain ⟨-, T2, hT2⟩ := h.p2 (hL 14 (by simp))
        simp only [putAll, List.foldl_cons, List.foldl_nil, List.setIfInBounds_toArray, List.set_cons_zero, List.set_cons_succ]
        clear h hL
        have HT2 := Lib.hid hT2
        clear hT2
        go_wp2_with fail
        have HTd := Lib.hid (HT2.out.below (Drawn.below _ ((Drawn.refl w2).drewN 1)))
        clear HT2
        obtain ⟨R2, hR2⟩ : ∃ R2, up2 R false t (R false t ++ [k]) = R2 := ⟨_, rfl⟩
        rw [hR2] at HTd
        have hRl2 : ∀ s t, (R2 s t).length ≤ 97 := by
          intro s j
          rw [← hR2]
          have h1 := hRl s j
          by_cases he : s = false ∧ j = t
          · obtain ⟨rfl, rfl⟩ := he
            rw [up2_self, List.length_append]
            simpa using h1
          · rw [up2_ne _ _ _ _ he]; omega
        have hRl := hRl2
        have HR2 := Lib.hid hR2
        clear hR2 hRl2
        have hI0 : ∀ V, RgI w B gt n va ars bs T2 R2 g ga 2 0 39 true f k (fun _ => false) V w2.drew := fun V =>
          ⟨HTd.out.bys, fun j u hj _ hu => by have := (HTd.out.tab true).cellAt j (by omega); simpa [hj, hu] using this, Nat.le_trans hB0 HTd.out.bel.size, fun _ => HTd.out, (by intros; contradiction), (by intros; contradiction), (by intros; contradiction), (by intros; contradiction), (by intros; contradiction), (by intros; contradiction), (by intros; contradiction), (by intros; contradiction), (by intros; contradiction), (by intros; contradiction), (by intros; contradiction), (by intros; contradiction), (by intros; contradiction), (by intros; contradiction), (by intros; contradiction)⟩
        have ht := hf'
        refine wp_region_put [39, 40, 41, 42, 43, 44, 45, 46, 47, 48, 49, 50, 51, 52] (RgI w B gt n va ars bs T2 R2 g ga 2 0 39 true f k) (by kernel_rfl) (by kernel_rfl) ?_ ?_ ?_
        · exact hI0 _
        · intro i o ho L V w1 hi hL h K hK
          have d0 := (h.bys _ hmg).cell 2
          have d1 := (h.bys _ hma).cell 0
          simp only [List.getElem?_toArray, List.getElem?_cons_zero, List.getElem?_cons_succ] at d0 d1
          rcases i with _ | _ | _ | _ | _ | _ | _ | _ | _ | _ | _ | _ | _ | _ | _ | i
          · cases ho
            simp only [putAll, List.foldl_cons, List.foldl_nil, List.setIfInBounds_toArray, List.set_cons_zero, List.set_cons_succ]
            clear hL
            go_simp
            refine hK (updV V 39 (.pointer (some ⟨g, 2, none⟩))) _ _ (by simp [putAll, updV]) ?_
            exact { h with e0 := fun _ => rfl }
          · cases ho
            simp only [putAll, List.foldl_cons, List.foldl_nil, List.setIfInBounds_toArray, List.set_cons_zero, List.set_cons_succ]
            have e0 : V 39 = _ := h.e0 (hL ⟨0, .data⟩ (by simp) rfl)
            clear hL
            go_simp
            refine hK (updV V 40 (.slice (some ⟨gt true, 0, none⟩) n n)) _ _ (by simp [putAll, updV, e0]) ?_
            exact { h with e1 := fun _ => rfl }
          · cases ho
            simp only [putAll, List.foldl_cons, List.foldl_nil, List.setIfInBounds_toArray, List.set_cons_zero, List.set_cons_succ]
            clear hL
            go_simp
            refine hK (updV V 41 (.pointer (some ⟨ga, 0, none⟩))) _ _ (by simp [putAll, updV]) ?_
            exact { h with e2 := fun _ => rfl }
          · cases ho
            simp only [putAll, List.foldl_cons, List.foldl_nil, List.setIfInBounds_toArray, List.set_cons_zero, List.set_cons_succ]
            have e2 : V 41 = _ := h.e2 (hL ⟨2, .data⟩ (by simp) rfl)
            clear hL
            go_simp
            refine hK (updV V 42 (.int .i64 f)) _ _ (by simp [putAll, updV, e2]) ?_
            exact { h with e3 := fun _ => rfl }
          · cases ho
            simp only [putAll, List.foldl_cons, List.foldl_nil, List.setIfInBounds_toArray, List.set_cons_zero, List.set_cons_succ]
            clear hL
            go_simp
            refine hK (updV V 43 (.pointer (some ⟨g, 2, none⟩))) _ _ (by simp [putAll, updV]) ?_
            exact { h with e4 := fun _ => rfl }
          · cases ho
            simp only [putAll, List.foldl_cons, List.foldl_nil, List.setIfInBounds_toArray, List.set_cons_zero, List.set_cons_succ]
            have e4 : V 43 = _ := h.e4 (hL ⟨4, .data⟩ (by simp) rfl)
            clear hL
            go_simp
            refine hK (updV V 44 (.slice (some ⟨gt true, 0, none⟩) n n)) _ _ (by simp [putAll, updV, e4]) ?_
            exact { h with e5 := fun _ => rfl }
          · cases ho
            simp only [putAll, List.foldl_cons, List.foldl_nil, List.setIfInBounds_toArray, List.set_cons_zero, List.set_cons_succ]
            clear hL
            go_simp
            refine hK (updV V 45 (.pointer (some ⟨ga, 0, none⟩))) _ _ (by simp [putAll, updV]) ?_
            exact { h with e6 := fun _ => rfl }
          · cases ho
            simp only [putAll, List.foldl_cons, List.foldl_nil, List.setIfInBounds_toArray, List.set_cons_zero, List.set_cons_succ]
            have e6 : V 45 = _ := h.e6 (hL ⟨6, .data⟩ (by simp) rfl)
            clear hL
            go_simp
            refine hK (updV V 46 (.int .i64 f)) _ _ (by simp [putAll, updV, e6]) ?_
            exact { h with e7 := fun _ => rfl }
          · cases ho
            simp only [putAll, List.foldl_cons, List.foldl_nil, List.setIfInBounds_toArray, List.set_cons_zero, List.set_cons_succ]
            have e5 : V 44 = _ := h.e5 (hL ⟨5, .data⟩ (by simp) rfl)
            have e7 : V 46 = _ := h.e7 (hL ⟨7, .data⟩ (by simp) rfl)
            clear hL
            go_simp
            refine hK (updV V 47 (.pointer (some ⟨gt true, f, none⟩))) _ _ (by simp [putAll, updV, e5, e7]) ?_
            exact { h with e8 := fun _ => rfl }
          · cases ho
            simp only [putAll, List.foldl_cons, List.foldl_nil, List.setIfInBounds_toArray, List.set_cons_zero, List.set_cons_succ]
            have e8 : V 47 = _ := h.e8 (hL ⟨8, .data⟩ (by simp) rfl)
            have h14 : L 14 = false := by
              cases h14 : L 14 with
              | false => rfl
              | true => exact (by cases ((h.p1 (h.p2 h14).1).2.1.symm.trans hi))
            have ct := h.tab f _ ht h14 rfl
            clear hL
            go_simp
            refine hK (updV V 48 (T2 true f)) _ _ (by simp [putAll, updV, e8]) ?_
            exact { h with e9 := fun _ => rfl, p1 := fun h12 => (by cases ((h.p1 h12).2.1.symm.trans hi)) }
          · cases ho
            simp only [putAll, List.foldl_cons, List.foldl_nil, List.setIfInBounds_toArray, List.set_cons_zero, List.set_cons_succ]
            clear hL
            go_simp
            refine hK (updV V 49 (.int .i64 k)) _ _ (by simp [putAll, updV]) ?_
            exact { h with e10 := fun _ => rfl }
          · cases ho
            simp only [putAll, List.foldl_cons, List.foldl_nil, List.setIfInBounds_toArray, List.set_cons_zero, List.set_cons_succ]
            have e10 : V 49 = _ := h.e10 (hL ⟨10, .data⟩ (by simp) rfl)
            clear hL
            have l12 : L 12 = false := by
              cases h12 : L 12 with
              | false => rfl
              | true => exact (by cases ((h.p1 h12).1.symm.trans hi))
            have hb := (Below.refl w1.heap.size w1).alloc (Nat.le_refl _) (.cells #[.int .i64 k] 3)
            have h0 := (h.p0 l12).below hb
            have hnew := (Blk.new w1 _ rfl 3 #[.int .i64 k]).cell 0
            go_simp
            refine hK (updV V 50 (.slice (some ⟨w1.heap.size, 0, none⟩) 1 1)) _ _ (by simp [putAll, updV, e10]) ?_
            exact { h with
              bys := h0.bys
              tab := fun j u hj _ hu => by rw [(h0.tab true).cellAt j (by omega)]; simp [hj, hu]
              siz := by have := h.siz; simp; omega
              p0 := fun _ => h0
              p1 := fun h12 => (by cases (h12.symm.trans l12))
              p2 := fun h14 => (by cases ((h.p2 h14).1.symm.trans l12))
              b := fun _ _ => ⟨_, rfl, by simp, hnew⟩ }
          · cases ho
            have e9 : V 48 = _ := h.e9 (hL ⟨9, .data⟩ (by simp) rfl)
            obtain ⟨gb, e11', hgb, hcb⟩ := h.b (hL ⟨11, .data⟩ (by simp) rfl) hi
            have e11 : V 50 = _ := e11'
            have h0 := h.p0 hi
            have l9 := hL ⟨9, .data⟩ (by simp) rfl
            have l11 := hL ⟨11, .data⟩ (by simp) rfl
            have l14 : L 14 = false := by
              cases h14 : L 14 with
              | false => rfl
              | true => exact (by cases ((h.p2 h14).1.symm.trans hi))
            clear hL
            have hlen := hRl true f
            refine step_append_rd rfl _ _ 26 rfl B 3 ii (.int .i64 0) 1 8 Tryd.underlying26 hii hz0 hz1 hz2 rfl (by decide) (T2 true f) (R2 true f).length _ (by simp [putAll, Act.eval, e9]) (h0.row true f ht) w1.heap.size (some ⟨gb, 0, none⟩) 1 1 [.int .i64 k] (by simp [putAll, Act.eval, e11]) rfl (.inr ⟨gb, 0, rfl, hgb, fun j u hu => ?_⟩) (by simp [Value.oneCell']) (by unfold maxLen; omega) (by omega) h.siz ?_
            · cases j with
              | zero => simp at hu; subst hu; exact hcb
              | succ j => simp at hu
            intro v' w2 o2 g2 hv2
            have h1 := h0.append hB0 true f ht v' k g2 hv2 o2
            refine hK (updV V 51 v') _ _ (by simp [putAll, Act.put, updV]) ?_
            have hs2 := g2.size
            exact { h with
              bys := h1.bys
              tab := fun j u hj _ hu => by rw [(h1.tab true).cellAt j (by omega)]; simp [hj, hu]
              siz := by have := h.siz; omega
              p0 := fun hn => (by cases hn)
              p1 := fun _ => ⟨l11, l9, fun _ => h1⟩
              p2 := fun h14 => (by cases (h14.symm.trans l14))
              b := fun _ hn => (by cases hn) }
          · cases ho
            simp only [putAll, List.foldl_cons, List.foldl_nil, List.setIfInBounds_toArray, List.set_cons_zero, List.set_cons_succ]
            have e1 : V 40 = _ := h.e1 (hL ⟨1, .data⟩ (by simp) rfl)
            have e3 : V 42 = _ := h.e3 (hL ⟨3, .data⟩ (by simp) rfl)
            clear hL
            go_simp
            refine hK (updV V 52 (.pointer (some ⟨gt true, f, none⟩))) _ _ (by simp [putAll, updV, e1, e3]) ?_
            exact { h with e13 := fun _ => rfl }
          · cases ho
            simp only [putAll, List.foldl_cons, List.foldl_nil, List.setIfInBounds_toArray, List.set_cons_zero, List.set_cons_succ]
            have l12 := hL ⟨12, .data⟩ (by simp) rfl
            have e13 : V 52 = _ := h.e13 (hL ⟨13, .data⟩ (by simp) rfl)
            clear hL
            have h1 : Wv w w1 B gt n va ars bs T2 (up2 T2 true f (V 51)) (up2 R2 true f (R2 true f ++ [k])) := (h.p1 l12).2.2 hi
            have hrow := h1.row true f ht
            rw [up2_self, up2_self] at hrow
            simp only [List.length_append, List.length_singleton] at hrow
            obtain ⟨A12, c12, e12, _⟩ := own_slice hrow
            rw [e12] at h1
            have y0 := h.tab f _ ht hi rfl
            have z0 := (h1.tab true).frozenAt f
            have h2 := h1.store true f (.slice A12 ((R2 true f).length + 1) c12)
            go_simp
            refine hK V _ _ (by simp [putAll, e13, e12]) ?_
            exact { h with
              bys := h2.bys
              tab := fun _ _ _ hn _ => (by cases hn)
              siz := by have := h.siz; simpa [World.setCell] using this
              p0 := fun hn => (by cases (l12.symm.trans hn))
              p1 := fun _ => ⟨(h.p1 l12).1, (h.p1 l12).2.1, fun hn => (by cases hn)⟩
              p2 := fun _ => ⟨l12, _, h2⟩
              b := fun _ hn => (by cases (l12.symm.trans hn)) }
          · simp at ho
        clear hI0 HTd ht
        intro L' V' w3 hL h
        obtain ⟨-, T3, hT3⟩ := h.p2 (hL 14 (by simp))
        simp only [putAll, List.foldl_cons, List.foldl_nil, List.setIfInBounds_toArray, List.set_cons_zero, List.set_cons_succ]
        clear h hL
        have HT3 := Lib.hid hT3
        clear hT3
        go_wp2_with fail
        refine ⟨⟨k + 1, by omega, by simp, T3, ?_⟩, by simp [intOf]; omega⟩
        have h9 := HT3.out
        rw [← Hbs2.out, ← HR2.out, ← HR.out, rowsF_succ ars k f t (by rw [Hhat.out]) (by rw [Hhat.out])] at h9
        exact h9.tail
      · obtain rfl : k = ars.length := by omega
        have hmg : (g, 85, #[va, .slice (some ⟨gt false, 0, none⟩) n n, .slice (some ⟨gt true, 0, none⟩) n n]) ∈ bs0 := by rw [← Hbs.out]; simp
        have hmr : (B + 1, 85, #[Value.slice none 0 0, .slice none 0 0, .slice none 0 0]) ∈ bs0 := by rw [← Hbs.out]; simp
        have kg := hT.bys _ hmg
        have kr : Blk wr (B + 1) 85 #[.slice none 0 0, .slice none 0 0, .slice none 0 0] := hT.bys _ hmr
        have c0 := kg.cell 0
        have c1 := kg.cell 1
        have c2 := kg.cell 2
        have y0 := kr.cell 0
        have z0 := kr.frozen 0
        have y1 := (kr.set 0 (.slice A9 ars.length c9)).cell 1
        have z1 := (kr.set 0 (.slice A9 ars.length c9)).frozen 1
        have y2 := ((kr.set 0 (.slice A9 ars.length c9)).set 1 (.slice (some ⟨gt false, 0, none⟩) n n)).cell 2
        have z2 := ((kr.set 0 (.slice A9 ars.length c9)).set 1 (.slice (some ⟨gt false, 0, none⟩) n n)).frozen 2
        have kk := (((kr.set 0 (.slice A9 ars.length c9)).set 1 (.slice (some ⟨gt false, 0, none⟩) n n)).set 2 (.slice (some ⟨gt true, 0, none⟩) n n))
        rw [← Hva.out] at c0
        simp only [List.setIfInBounds_toArray, List.set_cons_zero, List.set_cons_succ, List.getElem?_toArray, List.getElem?_cons_zero, List.getElem?_cons_succ] at c0 c1 c2 y0 y1 y2 kk
        have hon : Only (fun k => k = B + 1) wr (((wr.setCell ⟨B + 1, 0, none⟩ (.slice A9 ars.length c9)).setCell ⟨B + 1, 1, none⟩ (.slice (some ⟨gt false, 0, none⟩) n n)).setCell ⟨B + 1, 2, none⟩ (.slice (some ⟨gt true, 0, none⟩) n n)) :=
          ⟨rfl, rfl, rfl, by simp [World.setCell], fun k _ hk => by rw [Below.heap_setCell _ _ _ _ hk, Below.heap_setCell _ _ _ _ hk, Below.heap_setCell _ _ _ _ hk]⟩
        have hT3 := hT.only kr (by omega) hon (by decide) (by decide) (by decide)
        clear hT kg kr hon
        go_wp2_with fail
        generalize ((wr.setCell ⟨B + 1, 0, none⟩ (.slice A9 ars.length c9)).setCell ⟨B + 1, 1, none⟩ (.slice (some ⟨gt false, 0, none⟩) n n)).setCell ⟨B + 1, 2, none⟩ (.slice (some ⟨gt true, 0, none⟩) n n) = W3 at *
        have t0 := kk.cell 0
        have t1 := kk.cell 1
        have t2 := kk.cell 2
        simp only [List.getElem?_toArray, List.getElem?_cons_zero, List.getElem?_cons_succ] at t0 t1 t2
        exact bodyPost_ret (v := .agg #[.slice A9 ars.length c9, .slice (some ⟨gt false, 0, none⟩) n n, .slice (some ⟨gt true, 0, none⟩) n n]) (by simp [results, Tryd.results26, go_sem, t0, t1, t2]) rfl ⟨gt, A9, c9, T, rfl, by rw [Hva.out]; exact hT3⟩
end Go.Proofs.YtdogddngiolpoaaDoor
