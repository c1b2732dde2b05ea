/-
  Cycles begun elsewhere, or the other way round: the same answer; the walk of Turned.
-/
import Derived.Test.YtkheoaleamolcaaDoorVe
namespace Go.Proofs.YtkheoaleamolcaaDoor
open Go.RowKit

def flipS (s : StI) : StI := (s.1, !s.2)
def turnT (p : List StI) : List StI := (p.map flipS).reverse
theorem arcOf_flip (ars : List ArcV) (s : StI) : arcOf ars (flipS s) = arcOf ars s := rfl
theorem from_flip (ars : List ArcV) (s : StI) : fromS ars (flipS s) = toS ars s := by unfold fromS toS; rw [arcOf_flip]; unfold flipS; cases s.2 <;> rfl
theorem to_flip (ars : List ArcV) (s : StI) : toS ars (flipS s) = fromS ars s := by unfold fromS toS; rw [arcOf_flip]; unfold flipS; cases s.2 <;> rfl
theorem give_flip (ars : List ArcV) (s : StI) : giveS ars (flipS s) = takeS ars s := by unfold giveS takeS; rw [arcOf_flip]; unfold flipS; cases s.2 <;> rfl
theorem take_flip (ars : List ArcV) (s : StI) : takeS ars (flipS s) = giveS ars s := by unfold giveS takeS; rw [arcOf_flip]; unfold flipS; cases s.2 <;> rfl
theorem map_turn {α : Type} (p : List StI) (f g : StI → α) (h : ∀ s, f (flipS s) = g s) : (turnT p).map f = (p.map g).reverse := by
  unfold turnT
  rw [List.map_reverse, List.map_map]
  congr 1
  exact List.map_congr_left fun s _ => h s
theorem turnT_turnT (p : List StI) : turnT (turnT p) = p := by
  unfold turnT
  rw [List.map_reverse, List.reverse_reverse, List.map_map]
  conv => rhs; rw [← List.map_id p]
  exact List.map_congr_left fun s _ => by simp [flipS]
theorem closes_turn {ars : List ArcV} {p : List StI} (h : Closes ars p) : Closes ars (turnT p) := by
  obtain ⟨h0, h1, h2, h3⟩ := h
  refine ⟨fun he => h0 (by unfold turnT at he; simpa using he), ?_, ?_, ?_⟩
  · rw [map_turn p (toS ars) (fromS ars) (to_flip ars), map_turn p (fromS ars) (toS ars) (from_flip ars), h1, rot1_rev]
  · rw [map_turn p (fromS ars) (toS ars) (from_flip ars), h1]
    exact ((List.reverse_perm _).trans (rot1_perm _)).nodup_iff.2 h2
  · rw [map_turn p (·.1) (·.1) (fun _ => rfl)]
    exact (List.reverse_perm _).nodup_iff.2 h3
theorem closesB_turn (ars : List ArcV) (p : List StI) : closesB ars (turnT p) = closesB ars p := by
  rw [Bool.eq_iff_iff, closesB_iff, closesB_iff]
  exact ⟨fun h => by have := closes_turn h; rwa [turnT_turnT] at this, closes_turn⟩
theorem allIn_turn (L : Nat) (p : List StI) : allIn L (turnT p) = allIn L p := by
  unfold allIn turnT
  rw [List.all_reverse, List.all_map]
  rfl
theorem prodZ_perm {l m : List Int} (h : l.Perm m) : prodZ l = prodZ m := by
  induction h with
  | nil => rfl
  | cons x _ ih => rw [prodZ_cons, prodZ_cons, ih]
  | swap x y l => rw [prodZ_cons, prodZ_cons, prodZ_cons, prodZ_cons, ← Int.mul_assoc, ← Int.mul_assoc, Int.mul_comm y x]
  | trans _ _ h1 h2 => rw [h1, h2]
theorem confirm_turn (n : Int) (ars : List ArcV) (p : List StI) : confirmF n ars (turnT p) = confirmF n ars p := by
  unfold confirmF
  rw [closesB_turn, allIn_turn, map_turn p (giveS ars) (takeS ars) (give_flip ars), map_turn p (takeS ars) (giveS ars) (take_flip ars), prodZ_perm (List.reverse_perm _), prodZ_perm (List.reverse_perm (p.map (giveS ars)))]
  simp only [show (prodZ (p.map (takeS ars)) = prodZ (p.map (giveS ars))) = (prodZ (p.map (giveS ars)) = prodZ (p.map (takeS ars))) from propext ⟨Eq.symm, Eq.symm⟩]
theorem closes_rot (ars : List ArcV) (p : List StI) : Closes ars (rot1 p) ↔ Closes ars p := by
  unfold Closes
  have e1 : rot1 p ≠ [] ↔ p ≠ [] := by cases p <;> simp [rot1]
  have e2 : (rot1 p).map (toS ars) = rot1 ((rot1 p).map (fromS ars)) ↔ p.map (toS ars) = rot1 (p.map (fromS ars)) := by
    rw [rot1_map, rot1_map]
    exact ⟨fun h => rot1_inj h, fun h => by rw [h]⟩
  have e3 : ((rot1 p).map (fromS ars)).Nodup ↔ (p.map (fromS ars)).Nodup := by rw [rot1_map]; exact (rot1_perm _).nodup_iff
  have e4 : ((rot1 p).map (·.1)).Nodup ↔ (p.map (·.1)).Nodup := by rw [rot1_map]; exact (rot1_perm _).nodup_iff
  rw [e1, e2, e3, e4]
theorem closes_swap (ars : List ArcV) : ∀ u v : List StI, Closes ars (v ++ u) ↔ Closes ars (u ++ v)
  | [], v => by rw [List.append_nil, List.nil_append]
  | s :: u, v => by
    have h := closes_swap ars u (v ++ [s])
    rw [List.append_assoc, List.singleton_append] at h
    rw [h, ← closes_rot ars ((s :: u) ++ v)]
    simp [rot1]
theorem confirm_swap (n : Int) (ars : List ArcV) (u v : List StI) : confirmF n ars (v ++ u) = confirmF n ars (u ++ v) := by
  unfold confirmF
  have e1 : closesB ars (v ++ u) = closesB ars (u ++ v) := by rw [Bool.eq_iff_iff, closesB_iff, closesB_iff]; exact closes_swap ars u v
  have e2 : allIn ars.length (v ++ u) = allIn ars.length (u ++ v) := by unfold allIn; rw [List.all_append, List.all_append, Bool.and_comm]
  have e3 : ∀ f : StI → Int, prodZ ((v ++ u).map f) = prodZ ((u ++ v).map f) := fun f => prodZ_perm (List.perm_append_comm.map f)
  rw [e1, e2, e3, e3]

theorem info_step : (Tryd.prog.info? 43).map (fun i => (i.zero, i.size, i.bytes)) = some (some (.agg #[.int .i64 0, .bool false]), 2, 16) := by kernel_rfl
theorem turnT_drop {p : List StI} {j : Nat} {s : StI} (h : p.drop j = s :: p.drop (j + 1)) : turnT (p.drop j) = turnT (p.drop (j + 1)) ++ [(s.1, !s.2)] := by rw [h]; simp [turnT, flipS]
theorem turnT_length (p : List StI) : (turnT p).length = p.length := by simp [turnT]
theorem cellsT_append (p q : List StI) : cellsT (p ++ q) = cellsT p ++ cellsT q := by simp [cellsT]
theorem cellsT_one (p : List StI) : ∀ u ∈ cellsT p, u.oneCell' = true := by
  intro u hu
  obtain ⟨s, _, h⟩ := List.mem_flatMap.1 hu
  simp [stiCells] at h
  rcases h with rfl | rfl <;> rfl

set_option maxHeartbeats 1000000 in
theorem turnedT_any (p : List StI) (A : Option Addr) (n c : Nat) (w : World) (hn : p.length = n) (hx : FitT p) (hr : Rd w w.heap.size A (cellsT p)) (hz : n * 16 ≤ 140737488351232) :
    Calls Tryd.prog 20 #[.slice A n c] w fun e w' => ∃ A' c', e = .returned (.slice A' n c') ∧ n ≤ c' ∧ w'.ownsRow w.heap.size 43 2 (.slice A' n c') n (cellsT (turnT p)) ∧ Below w.heap.size w w' := by
  obtain ⟨i1, hj, hy0, hy1, hy2⟩ := info_parts info_step
  subst hn
  go_enter Tryd.func20, Tryd.ntmps20
  go_wp2
  go_loopw [3, 4] (fun v i wr => ∃ (j : Nat) (A' : Option Addr) (c' : Nat), j ≤ p.length ∧ i = .int .i64 ((j : Int) - 1) ∧ v = .slice A' (p.length - j) c' ∧ p.length - j ≤ c' ∧ wr.ownsRow w.heap.size 43 2 (.slice A' (p.length - j) c') (p.length - j) (cellsT (turnT (p.drop j))) ∧ Below w.heap.size w wr) (fun _ i _ => (intOf i + 1).toNat)
  case atStart => exact ⟨p.length, none, 0, Nat.le_refl _, rfl, by simp, by omega, by rw [List.drop_length, Nat.sub_self]; exact World.ownsRow_nil _ _ _ _, Below.refl _ _⟩
  case round =>
    obtain ⟨j, A', c', hjl, rfl, rfl, hc', ho, hb⟩ := hrel
    match j, hjl, hc', ho with
    | 0, hjl, hc', ho =>
      rw [Nat.sub_zero] at *
      go_wp2
      go_ret
      exact ⟨A', c', rfl, hc', ho, hb⟩
    | j + 1, hjl, hc', ho =>
      rw [show (((j + 1 : Nat) : Int) - 1) = (j : Int) by omega]
      obtain ⟨b, off, x, t, rfl, hbl, hxf, hc1, hc2, hd, hxx⟩ := (hr.below hb (Nat.le_refl _)).sti hx (k := j) (by omega)
      have hlt := ho.lt
      have hne : (Value.slice A' (p.length - (j + 1)) c').ownBlock ≠ some b := fun he => by have := (hlt b he).1; omega
      have h1 : (0 : Int) ≤ (j : Int) := by omega
      have h2 : (j : Int) < (p.length : Int) := by omega
      have hsz := hb.size
      have hnl : p.length ≤ 8796093021952 := by omega
      clear hc'
      go_wp2
      go_region_held3 (fun w' => w'.cell? ⟨b, off + j * 2, none⟩ = some (.int .i64 x) ∧ w'.cell? ⟨b, off + j * 2 + 1, none⟩ = some (.bool t))
        (first
          | go_keep
          | (go_split_ands
             refine ⟨?_, ?_⟩
             · (rw [hgrow.cell_far _ (by simp; omega) (Ne.symm hne)]; assumption)
             · (rw [hgrow.cell_far _ (by simp; omega) (Ne.symm hne)]; assumption)))
        ((refine step_append_lies _ (by rfl) _ _ _ (by rfl) w.heap.size 43 i1 _ 2 16 Tryd.underlying25 hj hy0 hy1 hy2 rfl (by omega) (.slice A' (p.length - (j + 1)) c') (p.length - (j + 1)) (cellsT (turnT (p.drop (j + 1)))) (by rfl) ((ho.alloc _).drew)
            ⟨wr.heap.size, 0, none⟩ 1 1 [.int .i64 x, .bool (!t)] (by rfl) (by rfl) (World.news_of_block (cs := #[.int .i64 x, .bool (!t)]) (t := 43) (fr := (0, 0)) (heap_alloc_new wr _)) (by simp [Value.oneCell'])
            (by omega) (by unfold maxLen; omega) (by omega) (by simp; omega) (wr.heap.size + 1) (by simp) ?_; intro gg cap w1 hown1 hgrow hat hlt'))
      have hb2 : Below w.heap.size w ((wr.alloc (.cells #[.int .i64 x, .bool (!t)] 43)).drew) := Below.drewN (hb.alloc hb.size _) 1
      have hb3 := hb2.grown hgrow hb2.size (fun k hk => (hlt k hk).1)
      have ho3 : w1.ownsRow w.heap.size 43 2 (.slice (some ⟨gg, 0, none⟩) (p.length - j) cap) (p.length - j) (cellsT (turnT (p.drop j))) := by
        rw [turnT_drop hd.out, cellsT_append]
        rw [show p.length - (j + 1) + 1 = p.length - j by omega] at hown1
        exact hown1
      have e0 : p.length - (j + 1) + 1 = p.length - j := by omega
      rw [e0]
      have hcap : p.length - j ≤ cap := by
        rcases ho3.2 with ⟨h, _⟩ | ⟨g, cap', cur, h, _, _, h4, _⟩
        · simp at h
        · injection h with _ _ h; omega
      clear hown1 hgrow hat hlt' hc1 hc2 hb2 hne hlt e0 hd hxx hxf
      go_wp2
      go_roundw
      case rel => exact ⟨j, _, cap, by omega, by go_num, rfl, hcap, ho3, hb3⟩
      case measure => simp [intOf]
end Go.Proofs.YtkheoaleamolcaaDoor
