/-
  SimulMore: a net as new memory; a token more at the start.
-/
import Derived.Test.YtdogddngiolpoaaRz2
namespace Go.Proofs.Ytdogddngiolpoaa
open Go.RowKit

set_option maxHeartbeats 1000000 in
theorem netCopy_any (n : Int) (ars : List ArcV) (A : Option Addr) (l c : Nat) (w : World) (hl : ars.length = l) (hr : Rd w w.heap.size A (cellsA ars)) (hm : l ≤ maxLen) (hz : l * 40 ≤ 140737488351232) :
    Calls Try.prog 24 #[.agg #[.int .i64 n, .slice A l c]] w fun e w' => ∃ A' c', e = .returned (.agg #[.int .i64 n, .slice A' l c']) ∧ w'.ownsRow w.heap.size 52 5 (.slice A' l c') l (cellsA ars) ∧ Below w.heap.size w w' := by
  obtain ⟨i1, hj, za, hy0, hy1, hy2, hy3⟩ := arc_parts
  have hcl : (cellsA ars).length = l * 5 := by rw [cellsA_length, hl]
  have hb0 : ∀ o o', Below w.heap.size w ((w.alloc o).alloc o') := fun o o' => ((Below.refl _ _).alloc (Nat.le_refl _) o).alloc (by simp) o'
  have hr2 := (hr.below (hb0 (.cells #[.int .i64 n, .slice A l c] 24) (.cells #[.int .i64 0, .slice none 0 0] 24)) (Nat.le_refl _))
  have k1 := (Blk.new w _ rfl 24 #[.int .i64 n, .slice A l c]).alloc (.cells #[.int .i64 0, .slice none 0 0] 24)
  have k2 := Blk.new (w.alloc (.cells #[.int .i64 n, .slice A l c] 24)) (w.heap.size + 1) (by simp) 24 #[.int .i64 0, .slice none 0 0]
  have hb2 := hb0 (.cells #[.int .i64 n, .slice A l c] 24) (.cells #[.int .i64 0, .slice none 0 0] 24)
  have bz : ((w.alloc (.cells #[.int .i64 n, .slice A l c] 24)).alloc (.cells #[.int .i64 0, .slice none 0 0] 24)).heap.size = w.heap.size + 1 + 1 := by simp
  go_enter Try.func24, Try.ntmps24
  go_wp2_with (at_builtin; refine wpList_append_rd _ rfl _ _ 22 rfl (w.heap.size + 1 + 1) 52 i1 za 5 40 Try.underlying22 hj hy0 hy1 hy2 hy3 (by decide) _ 0 [] rfl (World.ownsRow_nil _ _ _ _) w.heap.size A l c (cellsA ars) rfl hcl hr2 (cellsA_one ars) (by omega) (by omega) (by rw [bz]; exact Nat.le_refl _) ?_)
  intro v' w3 o3 g3 hb3
  obtain ⟨A3, c3, rfl, -⟩ := own_slice o3
  have h1 := k1.grown g3 (by simp [Value.ownBlock])
  have h2 := k2.grown g3 (by simp [Value.ownBlock])
  have hb3' := hb2.grown g3 (by rw [bz]; omega) (fun k hk => by simp [Value.ownBlock] at hk)
  have hl2 := h2.lt
  have n0 := h1.cell 0
  have z0 := h2.frozen 0
  have z1 := h2.frozen 1
  have s0 := h2.cell 0
  have s1 := h2.cell 1
  have t0 := ((h2.set 0 (.int .i64 n)).set 1 (.slice A3 l c3)).cell 0
  have t1 := ((h2.set 0 (.int .i64 n)).set 1 (.slice A3 l c3)).cell 1
  have bw := (hb3'.setCell (p := ⟨w.heap.size + 1, 0, none⟩) (by simp) (.int .i64 n)).setCell (p := ⟨w.heap.size + 1, 1, none⟩) (by simp) (.slice A3 l c3)
  have o4 := own_set (own_set o3 h2 (by decide) 0 (.int .i64 n)) (h2.set 0 (.int .i64 n)) (by decide) 1 (.slice A3 l c3)
  simp at n0 s0 s1 t0 t1
  clear k1 k2 hr2 hb2 bz g3 hb3 hb0 hb3' o3 h1 h2
  go_wp2
  exact bodyPost_ret (v := .agg #[.int .i64 n, .slice A3 l c3]) (by simp [results, Try.results24, go_sem, t0, t1]) rfl ⟨A3, c3, rfl, World.ownsRow.mono o4 (by omega), bw⟩

/-- a token more at the start of an arc -/
def moreF (ars : List ArcV) (i : Nat) : List ArcV := ars.set i { arcAt ars i with s := (arcAt ars i).s + 1 }
theorem more_at (ars : List ArcV) {i j : Nat} (hi : i < ars.length) : arcAt (moreF ars i) j = if j = i then { arcAt ars i with s := (arcAt ars i).s + 1 } else arcAt ars j := by
  unfold arcAt moreF
  rw [List.getElem?_set]
  by_cases h : i = j
  · subst h; rw [if_pos rfl, if_pos hi, if_pos rfl]; rfl
  · rw [if_neg h, if_neg (fun hc => h hc.symm)]
theorem more_len (ars : List ArcV) (i : Nat) : (moreF ars i).length = ars.length := by simp [moreF]
theorem arcsF_iff (n : Int) : ∀ ars : List ArcV, arcsF n ars = 0 ↔ ∀ a ∈ ars, arcF n a = 0 := by
  intro ars
  induction ars with
  | nil => simp [arcsF]
  | cons b ars ih =>
    unfold arcsF
    by_cases h : arcF n b = 0
    · rw [if_pos h, ih]; simp [h]
    · rw [if_neg h]; simp [h]
theorem arcF_iff (n : Int) (a : ArcV) : arcF n a = 0 ↔ ¬ (a.f < 0 ∨ a.t < 0 ∨ n ≤ a.f ∨ n ≤ a.t) ∧ ¬ (a.g < 1 ∨ a.k < 1 ∨ 64 < a.g ∨ 64 < a.k) ∧ ¬ (a.s < 0 ∨ 256 < a.s) := by
  unfold arcF
  split
  · rename_i h; constructor
    · intro hc; cases hc
    · intro hc; exact absurd h hc.1
  · split
    · rename_i h; constructor
      · intro hc; cases hc
      · intro hc; exact absurd h hc.2.1
    · split
      · rename_i h; constructor
        · intro hc; cases hc
        · intro hc; exact absurd h hc.2.2
      · rename_i h1 h2 h3; exact ⟨fun _ => ⟨h1, h2, h3⟩, fun _ => rfl⟩
theorem more_check {n : Int} {ars : List ArcV} {i : Nat} (hi : i < ars.length) (hs : (arcAt ars i).s < 256) (h : checkF n ars = 0) : checkF n (moreF ars i) = 0 := by
  unfold checkF at h ⊢
  rw [more_len]
  split at h
  · cases h
  · rename_i h1
    rw [if_neg h1]
    split at h
    · cases h
    · rename_i h2
      rw [if_neg h2]
      rw [arcsF_iff] at h ⊢
      intro a ha
      obtain ⟨j, hj⟩ := List.getElem?_of_mem ha
      have hjl := (List.getElem?_eq_some_iff.1 hj).1
      rw [more_len] at hjl
      have e := arcAt_some hj
      rw [more_at ars hi] at e
      split at e
      · have := h _ (arcAt_mem hi)
        rw [arcF_iff] at this ⊢
        subst e
        simp only
        omega
      · subst e; exact h _ (arcAt_mem hjl)
theorem more_even {ars : List ArcV} {i : Nat} {rs : List Int} (hi : i < ars.length) (h : ars.all (evenB rs) = true) : (moreF ars i).all (evenB rs) = true := by
  rw [List.all_eq_true] at h ⊢
  intro a ha
  obtain ⟨j, hj⟩ := List.getElem?_of_mem ha
  have hjl := (List.getElem?_eq_some_iff.1 hj).1
  rw [more_len] at hjl
  have e := arcAt_some hj
  rw [more_at ars hi] at e
  split at e
  · subst e
    show evenB rs (arcAt ars i) = true
    exact h _ (arcAt_mem hi)
  · subst e; exact h _ (arcAt_mem hjl)
theorem more_wrong {n : Int} {ars : List ArcV} {i : Nat} {rs : List Int} (hi : i < ars.length) (hs : (arcAt ars i).s < 256) (h : wrongF n ars rs [] = 0) : wrongF n (moreF ars i) rs [] = 0 := by
  obtain ⟨m, rfl, hck, hN, hlen, hall, heven, hsum, hno⟩ := wrongF_parts h
  have hck' := more_check hi hs hck
  have e1 : holdE m (moreF ars i) rs = 0 := by unfold holdE; rw [if_pos hck', if_pos (by omega)]
  have e2 : holdB m (moreF ars i) rs = true := by unfold holdB; rw [hall, more_even hi heven, decide_eq_true ⟨hck', by omega⟩]; rfl
  unfold wrongF
  rw [if_pos e1, if_pos e2, if_neg (by omega), if_pos hno]
theorem more_may {ars : List ArcV} {n i v : Nat} {F : Nat → Int} (hi : i < ars.length) (h : mayB ars n F v = true) : mayB (moreF ars i) n F v = true := by
  rw [mayB_iff] at h ⊢
  refine ⟨h.1, fun j hj ht => ?_⟩
  rw [more_len] at hj
  unfold tokI at *
  rw [more_at ars hi] at ht ⊢
  split at ht
  · rename_i he
    subst he
    rw [if_pos rfl]
    have := h.2 j hj ht
    unfold tokI tokA at this
    unfold tokA
    simp only at this ⊢
    omega
  · rename_i he
    rw [if_neg he]
    exact h.2 j hj ht
theorem more_reach {ars : List ArcV} {n i : Nat} {rs : List Int} {F : Nat → Int} (hi : i < ars.length) (h : Reach ars n rs F) : Reach (moreF ars i) n rs F := by
  induction h with
  | zero => exact .zero
  | step _ hl hm ih => exact .step ih hl (more_may hi hm)
/-- what could be ended still can; no more blocks than before -/
theorem more_blocks {n : Int} {ars : List ArcV} {i : Nat} {rs : List Int} (hi : i < ars.length) (hs : (arcAt ars i).s < 256) (h : wrongF n ars rs [] = 0) :
    (ansF (pickS (moreF ars i) n.toNat rs []) n (moreF ars i) rs []).2.length ≤ (ansF (pickS ars n.toNat rs []) n ars rs []).2.length := by
  have h' := more_wrong hi hs h
  obtain ⟨m, rfl, hck, hN, hlen, hall, heven, hsum, hno⟩ := wrongF_parts h
  obtain ⟨m', hm', hck', hN', -⟩ := wrongF_parts h'
  obtain rfl : m' = m := by omega
  rw [Int.toNat_natCast]
  unfold ansF
  rw [if_pos h, if_pos h', Int.toNat_natCast]
  obtain ⟨a1, a2, -⟩ := runF_end (pickS_ok ars m' rs []) (pickS_all ars m' rs []) _ _ .zero (Nat.le_refl _)
  obtain ⟨b1, b2, -⟩ := runF_end (pickS_ok (moreF ars i) m' rs []) (pickS_all (moreF ars i) m' rs []) _ _ .zero (Nat.le_refl _)
  generalize runF (pickS ars m' rs []) (leftSum m' (leftF rs fun _ => 0)) (fun _ => 0) = r1 at *
  generalize runF (pickS (moreF ars i) m' rs []) (leftSum m' (leftF rs fun _ => 0)) (fun _ => 0) = r2 at *
  have hle := (more_reach hi a1).le_final hN' b1.nonneg b2
  have key : (blocksF (moreF ars i) m' r2.2 (leftF rs r2.2) m').length ≤ (blocksF ars m' r1.2 (leftF rs r1.2) m').length := by
    unfold blocksF
    rw [List.length_map, List.length_map, ← List.countP_eq_length_filter, ← List.countP_eq_length_filter]
    refine List.countP_mono_left fun v hv hd => ?_
    have := hle v (List.mem_range.1 hv)
    simp only [decide_eq_true_eq] at hd ⊢
    unfold leftF at hd ⊢
    omega
  unfold endF
  split
  · simp
  · rename_i h2
    split
    · rename_i h1
      rw [h1] at key
      simp only [List.length_nil, Nat.le_zero, List.length_eq_zero_iff] at key
      exact absurd key h2
    · exact key
theorem more_cells (ars : List ArcV) {i : Nat} (hi : i < ars.length) : (cellsA ars).set (i * 5 + 4) (.int .i64 ((arcAt ars i).s + 1)) = cellsA (moreF ars i) := by
  apply List.ext_getElem?
  intro k
  have hlen : (cellsA ars).length = ars.length * 5 := cellsA_length ars
  have hlen' : (cellsA (moreF ars i)).length = ars.length * 5 := by rw [cellsA_length, more_len]
  by_cases hk : k < ars.length * 5
  · have hq : k / 5 < ars.length := by omega
    have e0 : k = k / 5 * 5 + k % 5 := by omega
    have hm : k % 5 < 5 := Nat.mod_lt _ (by omega)
    have a1 : ars[k / 5]? = some (arcAt ars (k / 5)) := by unfold arcAt; rw [List.getElem?_eq_getElem hq]; rfl
    have a2 : (moreF ars i)[k / 5]? = some (arcAt (moreF ars i) (k / 5)) := by unfold arcAt; rw [List.getElem?_eq_getElem (by rw [more_len]; exact hq)]; rfl
    rw [more_at ars hi] at a2
    have c1 := fun u h => cellsA_at ars (k / 5) _ a1 (k % 5) u h
    have c2 := fun u h => cellsA_at (moreF ars i) (k / 5) _ a2 (k % 5) u h
    rw [← e0] at c1 c2
    by_cases hki : k = i * 5 + 4
    · have h1 : k / 5 = i := by omega
      have h2 : k % 5 = 4 := by omega
      rw [List.getElem?_set, if_pos hki.symm, if_pos (by omega)]
      rw [c2 (.int .i64 ((arcAt ars i).s + 1)) (by rw [h1, h2, if_pos rfl]; rfl)]
    · rw [List.getElem?_set, if_neg (fun h => hki h.symm)]
      obtain ⟨u, hu⟩ : ∃ u, (arcAt ars (k / 5)).cells[k % 5]? = some u := ⟨_, List.getElem?_eq_getElem (by simpa [ArcV.cells] using hm)⟩
      rw [c1 u hu, c2 u ?_]
      by_cases h1 : k / 5 = i
      · rw [if_pos h1]
        rw [h1] at hu
        have h2 : k % 5 ≠ 4 := by omega
        rw [← hu]
        generalize k % 5 = q at *
        match q, hm, h2 with
        | 0, _, _ => rfl
        | 1, _, _ => rfl
        | 2, _, _ => rfl
        | 3, _, _ => rfl
        | 4, _, h2 => exact absurd rfl h2
      · rw [if_neg h1]; exact hu
  · rw [List.getElem?_eq_none (by rw [List.length_set]; omega), List.getElem?_eq_none (by omega)]
end Go.Proofs.Ytdogddngiolpoaa
