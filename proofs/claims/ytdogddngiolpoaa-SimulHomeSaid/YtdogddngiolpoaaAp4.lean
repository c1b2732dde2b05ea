/-
  pianolakeep.Apart answers true of lists in blocks of their own.
-/
import Derived.Test.YtdogddngiolpoaaAp3
namespace Go.Proofs.Ytdogddngiolpoaa
open Go.RowKit

theorem info_slice : (Try.prog.info? 25).map (fun i => (i.zero, i.size, i.bytes)) = some (some (.slice none 0 0), 1, 24) := by kernel_rfl
theorem made_slice (m : Nat) : (madeCells #[Value.slice none 0 0] m).toList = (List.range m).map fun _ => Value.slice none 0 0 := by
  apply List.ext_getElem
  · simp [madeCells]
  · intro j h1 h2; simp [madeCells, Nat.mod_one]
theorem marks_fit {j n : Nat} (hj : j ≤ 100) (hn : n ≤ 17592186044400) : AllFit (marksOf j n) := by
  intro x hx
  obtain ⟨k, hk, rfl⟩ := List.mem_map.1 hx
  have := List.mem_range.1 hk
  unfold fits markOf; omega

/-- what the old lists hold -/
theorem read_old {w wr : World} {m B bo oo gl : Nat} {A : Nat → Option Addr} {n c : Nat → Nat} {L : Nat → Value} {ys : Nat → List Int} (T : ApB w wr m B bo oo gl A n c L ys) {p s : Nat} (hp : p < m) (hs : s < n p) :
    ∃ b off, A p = some ⟨b, off, none⟩ ∧ wr.cell? ⟨b, off + s, none⟩ = some (.int .i64 (markOf p s)) := by
  have hu : (cellsI (marksOf p (n p)))[s]? = some (.int .i64 (markOf p s)) := by simp only [cellsI, List.getElem?_map, marksOf_at hs]; rfl
  rcases T.rd p hp with h | ⟨b, off, hA, _, hc⟩
  · rw [h] at hu; simp at hu
  · exact ⟨b, off, hA, hc s _ hu⟩
/-- what the long ones hold -/
theorem read_long {w wr : World} {m B bo oo gl : Nat} {A : Nat → Option Addr} {n c : Nat → Nat} {L : Nat → Value} (T : ApB w wr m B bo oo gl A n c L (growing n m 0)) {p s : Nat} (hp : p < m) (hs : s < n p + 16) :
    ∃ A1 c1 b off, wr.cell? ⟨gl, p, none⟩ = some (.slice A1 (n p + 16) c1) ∧ A1 = some ⟨b, off, none⟩ ∧ wr.cell? ⟨b, off + s, none⟩ = some (.int .i64 (if s < n p then markOf p s else tailOf p (s - n p))) := by
  have hlg := T.lng.cellAt p (by omega)
  rw [show ((List.range m).map L)[p]? = some (L p) by simp [hp]] at hlg
  have hlen : (growing n m 0 p).length = n p + 16 := by rw [growing_end hp]; simp [marksOf_length, tailsOf_length]
  obtain ⟨A1, c1, hL, hc⟩ := (T.own p hp).slice
  rw [hlen] at hL
  have hu : (cellsI (growing n m 0 p))[s]? = some (.int .i64 (if s < n p then markOf p s else tailOf p (s - n p))) := by
    rw [growing_end hp]
    simp only [cellsI, List.getElem?_map]
    by_cases hsn : s < n p
    · rw [if_pos hsn, List.getElem?_append_left (by rw [marksOf_length]; exact hsn), marksOf_at hsn]; rfl
    · rw [if_neg hsn, List.getElem?_append_right (by rw [marksOf_length]; omega), marksOf_length, tailsOf_at (by omega)]; rfl
  obtain ⟨b, off, hA, hx⟩ := hc s _ hu
  exact ⟨A1, c1, b, off, by rw [hlg, hL], hA, hx⟩

set_option maxRecDepth 100000 in
set_option maxHeartbeats 8000000 in
theorem apart_any (m : Nat) (A : Nat → Option Addr) (n c : Nat → Nat) (xs : Nat → List Int) (bo oo cq B : Nat) (w : World) (hm : m ≤ 100) (hn : ∀ j, j < m → n j ≤ 17592186044400)
    (hO : ∀ j, j < m → w.ownsRow B 3 1 (.slice (A j) (n j) (c j)) (n j) (cellsI (xs j))) (hD : ∀ j k, j < m → k < m → j ≠ k → ∀ b, blkOf (A j) = some b → blkOf (A k) ≠ some b)
    (hout : ∀ j, j < m → w.cell? ⟨bo, oo + j, none⟩ = some (.slice (A j) (n j) (c j))) (hnb : ∀ j, j < m → blkOf (A j) ≠ some bo) (hbo : bo < w.heap.size) (hB : B ≤ w.heap.size) :
    Calls Try.prog 14 #[.slice (some ⟨bo, oo, none⟩) m cq] w fun e w' => e = .returned (.bool true) ∧ Below B w w' := by
  obtain ⟨i0, hi, hz0, hz1, hz2⟩ := info_parts info_int
  obtain ⟨i1, hj, hy0, hy1, hy2⟩ := info_parts info_slice
  have hxl : ∀ j, j < m → (xs j).length = n j := fun j hj => by have := (hO j hj).1; simpa [cellsI_length] using this
  go_enter Try.func14, Try.ntmps14
  go_wp2_with (at_make; refine wpList_make_full _ rfl _ _ 37 rfl w.heap.size 25 i1 (.slice none 0 0) 1 Try.underlying37 hj hy0 hy1 _ _ _ _ m rfl rfl (by omega) (by omega) (by rw [hy2]; omega) (by unfold maxLen; omega) (Nat.le_refl _) ?_)
  intro w2 o2 g2
  rw [made_slice] at o2
  obtain ⟨gl, hgl⟩ : ∃ gl, w.heap.size = gl := ⟨_, rfl⟩
  have G : ApG m B bo gl A := ⟨hnb, fun j hj he => by
      have := (hO j hj).lt gl (by rw [ownBlock_slice]; exact he)
      omega, hD, by omega, by omega⟩
  have S0 : ApA w w2 m B bo oo gl A n c (marking n xs 0 0) (fun _ => .slice none 0 0) := by
    refine ⟨(Below.refl B w).grown g2 hB (fun k hk => by cases hk), fun j hj => ?_, by rw [hgl] at o2; exact o2, fun j hj => ?_⟩
    · rw [World.cell?_of_block (w := w) (a := ⟨bo, oo + j, none⟩) (g2.block bo hbo (by simp))]; exact hout j hj
    · rw [marking_zero]; exact (hO j hj).kept g2 (by cases (Value.slice (A j) (n j) (c j)).ownBlock <;> simp)
  rw [hgl] at hbo ⊢
  have hgw : gl < w2.heap.size := (S0.lng.lt gl rfl).2
  have HG := Lib.hid G
  have Hn := Lib.hid hn
  have Hxl := Lib.hid hxl
  clear hgl o2 g2 hout hnb hD hO hB G hn hxl
  go_wp2
  go_loopw [4] (fun i wr => ∃ k : Nat, k ≤ m ∧ i = .int .i64 k ∧ bo < wr.heap.size ∧ ApA w wr m B bo oo gl A n c (marking n xs k 0) (fun j => if j < k then .slice (A j) (n j) (c j) else .slice none 0 0)) (fun i _ => m - (intOf i).toNat)
  case atStart => exact ⟨0, Nat.zero_le _, rfl, by omega, by simpa using S0⟩
  case round =>
    clear S0 hgw
    obtain ⟨k, hk, rfl, hbw, S⟩ := hrel
    by_cases hlt : k < m
    · have hok := S.out k hlt
      go_wp2
      clear hok
      go_loopw [5] (fun kk wx => ∃ q : Nat, q ≤ n k ∧ kk = .int .i64 q ∧ bo < wx.heap.size ∧ ApA w wx m B bo oo gl A n c (marking n xs k q) (fun j => if j < k then .slice (A j) (n j) (c j) else .slice none 0 0)) (fun kk _ => n k - (intOf kk).toNat)
      case atStart => exact ⟨0, Nat.zero_le _, rfl, hbw, S⟩
      case round =>
        clear S hbw
        obtain ⟨q, hq, rfl, hbw, S⟩ := hrel
        have hok := S.out k hlt
        have hnk := Hn.out k hlt
        by_cases hqn : q < n k
        · have hown := S.own k hlt
          obtain ⟨g, hg⟩ := own_addr hown (by omega)
          have S2 := S.store HG.out hlt hg q (markOf k q)
          have e2 : upd (marking n xs k q) k ((marking n xs k q k).set q (markOf k q)) = marking n xs k (q + 1) := by
            funext j
            by_cases hjk : j = k
            · subst hjk; rw [upd_self, marking_set (Hxl.out j hlt) hqn]
            · rw [upd_other hjk]; exact marking_other hjk
          rw [e2] at S2
          rw [hg] at hok hown
          have hco := hown.cellAt q (by omega)
          have fro := hown.frozenAt q
          obtain ⟨o, hoo⟩ : ∃ o, (cellsI (marking n xs k q k))[q]? = some o := ⟨_, List.getElem?_eq_getElem (by rw [cellsI_length, marking_length (Hxl.out k hlt) (fun _ => hq)]; exact hqn)⟩
          rw [hoo] at hco
          have hbw2 : bo < (wr.setCell ⟨g, q, none⟩ (.int .i64 (markOf k q))).heap.size := by simpa using hbw
          have hmk : markOf k q = (k : Int) * 1000003 + (q : Int) := rfl
          rw [hmk] at S2 hbw2
          clear hown hoo e2 S hmk hg
          go_wp2
          go_roundw
          case rel => exact ⟨q + 1, by omega, by go_num, hbw2, S2⟩
          case measure => simp [intOf]; omega
        · obtain rfl : q = n k := by omega
          have S2 := S.long HG.out k (.slice (A k) (n k) (c k))
          have e2 : upd (fun j => if j < k then Value.slice (A j) (n j) (c j) else .slice none 0 0) k (.slice (A k) (n k) (c k)) = fun j => if j < k + 1 then Value.slice (A j) (n j) (c j) else .slice none 0 0 := by
            funext j
            by_cases hjk : j = k
            · subst hjk; rw [upd_self, if_pos (by omega)]
            · rw [upd_other hjk]
              by_cases hjl : j < k
              · rw [if_pos hjl, if_pos (by omega)]
              · rw [if_neg hjl, if_neg (by omega)]
          rw [e2, marking_next] at S2
          have hco := S.lng.cellAt k (by omega)
          rw [show ((List.range m).map fun j => if j < k then Value.slice (A j) (n j) (c j) else .slice none 0 0)[k]? = some (.slice none 0 0) by simp [hlt]] at hco
          have fro := S.lng.frozenAt k
          have hbw2 : bo < (wr.setCell ⟨gl, k, none⟩ (.slice (A k) (n k) (c k))).heap.size := by simpa using hbw
          clear e2 S
          go_wp2
          go_roundw
          case rel => exact ⟨k + 1, by omega, by go_num, hbw2, S2⟩
          case measure => simp [intOf]; omega
    · obtain rfl : k = m := by omega
      have T0 : ApB w wr k B bo oo gl A n c (fun j => .slice (A j) (n j) (c j)) (growing n 0 0) := by
        have e1 : (List.range k).map (fun j => if j < k then Value.slice (A j) (n j) (c j) else .slice none 0 0) = (List.range k).map fun j => Value.slice (A j) (n j) (c j) :=
          List.map_congr_left fun j hj => if_pos (List.mem_range.1 hj)
        have S1 : ApA w wr k B bo oo gl A n c (fun j => marksOf j (n j)) (fun j => .slice (A j) (n j) (c j)) :=
          ⟨S.bw, S.out, by rw [← e1]; exact S.lng, fun j hj => by rw [← marking_end (n := n) (xs := xs) (Hxl.out j hj) hj]; exact S.own j hj⟩
        have e2 : growing n 0 0 = fun j => marksOf j (n j) := by funext j; exact growing_zero
        rw [e2]
        exact ApB.start HG.out hbw S1
      clear S hbw Hxl
      go_wp2
      go_loopw [6] (fun i wx => ∃ (q : Nat) (L : Nat → Value), q ≤ k ∧ i = .int .i64 q ∧ ApB w wx k B bo oo gl A n c L (growing n q 0)) (fun i _ => k - (intOf i).toNat)
      case atStart => exact ⟨0, _, Nat.zero_le _, rfl, T0⟩
      case round =>
        clear T0
        obtain ⟨q, L, hq, rfl, T⟩ := hrel
        by_cases hlt2 : q < k
        · go_wp2
          go_loopw [7] (fun kk wx => ∃ (r : Nat) (L : Nat → Value), r ≤ 16 ∧ kk = .int .i64 r ∧ ApB w wx k B bo oo gl A n c L (growing n q r)) (fun kk _ => 16 - (intOf kk).toNat)
          case atStart => exact ⟨0, L, by omega, rfl, T⟩
          case round =>
            clear T L
            obtain ⟨r, L, hr, rfl, T⟩ := hrel
            by_cases hr16 : r < 16
            · have hnq := Hn.out q hlt2
              have T1 := T.alloc HG.out (.cells #[.int .i64 (tailOf q r)] 3)
              have hlq := growing_length n q r
              have own1 := T1.own q hlt2
              have hlg := T.lng.cellAt q (by omega)
              rw [show ((List.range k).map L)[q]? = some (L q) by simp [hlt2]] at hlg
              obtain ⟨A1, c1, hL1, _⟩ := (T.own q hlt2).slice
              have hgl1 := T.gls
              have hBgl := HG.out.bgl
              have htl : tailOf q r = -(q : Int) * 1000003 - (r : Int) - 1 := rfl
              rw [htl] at T1 own1
              rw [hlq] at own1 hL1
              rw [hL1] at hlg own1
              have HL := Lib.hid hL1
              clear hL1 T htl
              go_wp2_with (at_builtin; refine wpList_append_n _ rfl _ _ 25 rfl B 3 i0 (.int .i64 0) Try.underlying25 hi hz0 hz1 hz2 rfl (.slice A1 (n q + r) c1) (n q + r) (cellsI (growing n q r q)) rfl own1 ⟨wr.heap.size, 0, none⟩ 1 (.int .i64 (-(q : Int) * 1000003 - (r : Int) - 1)) rfl (by simp) rfl (by omega) (by simp; omega) ?_)
              intro v' w5 o5 g5 hb5 hk5 hv5
              obtain ⟨A5, c5, rfl, _⟩ := o5.slice
              have HL1 := HL.out
              have T2 := ApB.grow HG.out T1 hlt2 (-(q : Int) * 1000003 - (r : Int) - 1) (v' := .slice A5 (n q + r + 1) c5)
                (by rw [hlq]; exact o5) (by rw [HL1]; exact g5) (by rw [HL1, World.size_alloc]; exact hb5) (by rw [HL1, hlq]; intro hs A' c' hv; injection hv with ha _ hc; rw [← ha, ← hc]; exact hv5 hs) (by rw [HL1]; intro g off _ _ hv; injection hv with ha _ _; exact hk5 g off ha)
              have e2 : upd (growing n q r) q (growing n q r q ++ [-(q : Int) * 1000003 - (r : Int) - 1]) = growing n q (r + 1) := by
                funext j
                by_cases hjk : j = q
                · subst hjk; rw [upd_self]; exact growing_succ n j r
                · rw [upd_other hjk]; exact growing_other hjk
              rw [e2] at T2
              have lng5 := T1.lng.kept g5 (.inr (by have := T1.ngl q hlt2; rw [HL1] at this; exact fun he => this he.symm))
              have hco := lng5.cellAt q (by omega)
              rw [show ((List.range k).map L)[q]? = some (L q) by simp [hlt2], HL1] at hco
              have fro := lng5.frozenAt q
              clear T1 e2 lng5 HL1 o5 g5 hb5 hk5 hv5 own1
              go_wp2
              go_roundw
              case rel => exact ⟨r + 1, _, by omega, by go_num, T2⟩
              case measure => simp [intOf]; omega
            · obtain rfl : r = 16 := by omega
              rw [growing_next] at T
              go_wp2
              go_roundw
              case rel => exact ⟨q + 1, L, by omega, by go_num, T⟩
              case measure => simp [intOf]; omega
        · obtain rfl : q = k := by omega
          clear hlt2 hk hq
          go_wp2
          go_loopw [8] (fun i wx => ∃ p : Nat, p ≤ q ∧ i = .int .i64 p ∧ ApB w wx q B bo oo gl A n c L (growing n q 0)) (fun i _ => q - (intOf i).toNat)
          case atStart => exact ⟨0, Nat.zero_le _, rfl, T⟩
          case round =>
            clear T
            obtain ⟨p, hp, rfl, T⟩ := hrel
            by_cases hlt3 : p < q
            · have hnp := Hn.out p hlt3
              go_wp2
              go_loopw [9] (fun i wx => ∃ s : Nat, s ≤ n p ∧ i = .int .i64 s ∧ ApB w wx q B bo oo gl A n c L (growing n q 0)) (fun i _ => n p - (intOf i).toNat)
              case atStart => exact ⟨0, Nat.zero_le _, rfl, T⟩
              case round =>
                clear T
                obtain ⟨s, hs, rfl, T⟩ := hrel
                have hok := T.out p hlt3
                by_cases hsn : s < n p
                · obtain ⟨b, off, hAp, hcr⟩ := read_old T hlt3 hsn
                  obtain ⟨A1, c1, b1, off1, hlg, hA1, hcl⟩ := read_long T hlt3 (show s < n p + 16 by omega)
                  rw [hAp] at hok
                  rw [hA1] at hlg
                  rw [if_pos hsn] at hcl
                  have hmk : markOf p s = (p : Int) * 1000003 + (s : Int) := rfl
                  rw [hmk] at hcl hcr
                  go_wp2
                  go_roundw
                  case rel => exact ⟨s + 1, by omega, by go_num, T⟩
                  case measure => simp [intOf]; omega
                · obtain rfl : s = n p := by omega
                  go_wp2
                  go_loopw [10] (fun i wx => ∃ s : Nat, s ≤ 16 ∧ i = .int .i64 s ∧ ApB w wx q B bo oo gl A n c L (growing n q 0)) (fun i _ => 16 - (intOf i).toNat)
                  case atStart => exact ⟨0, Nat.zero_le _, rfl, T⟩
                  case round =>
                    clear T hok
                    obtain ⟨s, hs, rfl, T⟩ := hrel
                    have hok := T.out p hlt3
                    by_cases hs16 : s < 16
                    · obtain ⟨A1, c1, b1, off1, hlg, hA1, hcl⟩ := read_long T hlt3 (show n p + s < n p + 16 by omega)
                      rw [hA1] at hlg
                      rw [if_neg (by omega), Nat.add_sub_cancel_left] at hcl
                      have hmk : tailOf p s = -(p : Int) * 1000003 - (s : Int) - 1 := rfl
                      rw [hmk] at hcl
                      have hsum : IntKind.i64.wrap ((n p : Int) + (s : Int)) = ((n p + s : Nat) : Int) := by rw [IntWalk.i64_in _ (by omega)]; omega
                      have hlt5 : n p + s < n p + 16 := by omega
                      go_wp2
                      go_quiet (fail)
                      go_wp2
                      go_roundw
                      case rel => exact ⟨s + 1, by omega, by go_num, T.drawn _⟩
                      case measure => simp [intOf]; omega
                    · obtain rfl : s = 16 := by omega
                      go_wp2
                      go_roundw
                      case rel => exact ⟨p + 1, by omega, by go_num, T⟩
                      case measure => simp [intOf]; omega
            · obtain rfl : p = q := by omega
              go_wp2
              go_ret
              exact ⟨rfl, T.bw⟩
end Go.Proofs.Ytdogddngiolpoaa
