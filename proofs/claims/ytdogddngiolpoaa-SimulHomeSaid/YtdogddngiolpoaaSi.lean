/-
  The document's state: Fire.
-/
import Derived.Test.YtdogddngiolpoaaSh
namespace Go.Proofs.Ytdogddngiolpoaa
open Go.RowKit

theorem own_firCell {w : World} {B n g c : Nat} {F : Nat → Int} (h : w.ownsRow B 3 1 (.slice (some ⟨g, 0, none⟩) n c) n (cellsI (rowF F n))) {j : Nat} (hj : j < n) : w.cell? ⟨g, j, none⟩ = some (.int .i64 (F j)) := by
  rw [h.cellAt j (by omega)]
  simp only [cellsI, List.getElem?_map, rowF_at F hj]
  rfl
theorem rst_of {w w' : World} {B n g c : Nat} {ars : List ArcV} {F : Nat → Int} {A : Option Addr} (hr : Rd w w.heap.size A (cellsA ars)) (hA : cellsA ars = [] ∨ blkOf A ≠ some g) (hO : Only (fun k => k = g) w w') (h : w'.ownsRow B 3 1 (.slice (some ⟨g, 0, none⟩) n c) n (cellsI (rowF F n))) : RSt w' n ars F A g :=
  ⟨(by
    rcases hA with hA | hA
    · exact .inl hA
    · exact (hr.only hO (Nat.le_refl _) (fun b hb he => hA (by rw [hb, he]))).more hO.size), fun j hj => own_firCell h hj, (h.lt g rfl).2⟩
theorem Only.below {X : Nat → Prop} {w w' w'' : World} (h : Only X w w') (hb : Below w'.heap.size w' w'') : Only X w w'' := h.trans ((belowOnly hb).mono (fun _ hk hX => absurd hk (by omega)))

set_option maxRecDepth 100000 in
set_option maxHeartbeats 4000000 in
theorem rFire_any (vs : List Int) (Av A : Option Addr) (l c cv n g cf B : Nat) (ars : List ArcV) (F : Nat → Int) (w : World) (hl : vs.length = l) (hfv : AllFit vs) (hrv : Rd w w.heap.size Av (cellsI vs)) (hv : blkOf Av ≠ some g)
    (hN : NetOk n ars) (hF : ∀ j, j < n → 0 ≤ F j ∧ F j + l ≤ 1000000) (hr : Rd w w.heap.size A (cellsA ars)) (hA : cellsA ars = [] ∨ blkOf A ≠ some g) (ho : w.ownsRow B 3 1 (.slice (some ⟨g, 0, none⟩) n cf) n (cellsI (rowF F n))) :
    Calls Try.prog 31 #[.agg #[.int .i64 n, .slice A ars.length c, .slice (some ⟨g, 0, none⟩) n cf], .slice Av l cv] w fun e w' => e = .returned (.int .i64 (fireN ars n F vs : Nat)) ∧ w'.ownsRow B 3 1 (.slice (some ⟨g, 0, none⟩) n cf) n (cellsI (rowF (fireF ars n F vs) n)) ∧ Only (fun k => k = g) w w' := by
  subst hl
  have n32 := hN.n32
  have hgw := (ho.lt g rfl).2
  have hlm : vs.length ≤ 1000000 := by have := hF 0 (by have := hN.pos; omega); omega
  have hrd : ∀ wr : World, Only (fun k => k = g) w wr → Rd wr w.heap.size Av (cellsI vs) := fun wr ho => hrv.only ho (Nat.le_refl _) (fun b hb hx => hv (by rw [hb, hx]))
  have hst : ∀ (wr : World) (G : Nat → Int), Only (fun k => k = g) w wr → wr.ownsRow B 3 1 (.slice (some ⟨g, 0, none⟩) n cf) n (cellsI (rowF G n)) → RSt wr n ars G A g := fun wr G h1 h2 => rst_of hr hA h1 h2
  have Hrd := Lib.hid hrd
  have Hst := Lib.hid hst
  have HF := Lib.hid hF
  have HN := Lib.hid hN
  have Hfv := Lib.hid hfv
  have hO1 : ∀ o, Only (fun k => k = g) w (w.alloc o) := fun o => (Only.refl _ w).below ((Below.refl _ _).alloc (Nat.le_refl _) o)
  have ho1 : ∀ o, (w.alloc o).ownsRow B 3 1 (.slice (some ⟨g, 0, none⟩) n cf) n (cellsI (rowF F n)) := fun o => ho.alloc o
  clear hrd hst hF hN hfv hr hA hv hrv ho
  go_enter Try.func31, Try.ntmps31
  go_wp2_with fail
  go_loopw [5] (fun i wr => ∃ (q : Nat) (G : Nat → Int), q ≤ vs.length ∧ i = .int .i64 q ∧ Only (fun k => k = g) w wr ∧ wr.ownsRow B 3 1 (.slice (some ⟨g, 0, none⟩) n cf) n (cellsI (rowF G n)) ∧ Blk wr w.heap.size 61 #[.int .i64 n, .slice A ars.length c, .slice (some ⟨g, 0, none⟩) n cf] ∧ Hid (∀ j, j < n → 0 ≤ G j ∧ G j ≤ F j + q) ∧ Hid (fireN ars n F vs = fireN ars n G (vs.drop q) + q) ∧ Hid (fireF ars n F vs = fireF ars n G (vs.drop q))) (fun i _ => vs.length - (intOf i).toNat)
  case atStart => exact ⟨0, F, by omega, rfl, hO1 _, ho1 _, Blk.new w _ rfl _ _, fun j hj => by have := HF.out j hj; omega, rfl, rfl⟩
  case round =>
    clear hO1 ho1
    obtain ⟨q, G, hq, rfl, hO, ho, kb, hG, hE1, hE2⟩ := hrel
    have hlw := kb.lt
    have s0 := kb.cell 0
    have s1 := kb.cell 1
    have s2 := kb.cell 2
    simp at s0 s1 s2
    by_cases hlt : q < vs.length
    · obtain ⟨b, off, x, rfl, hb, hxf, hc, hd, hxx⟩ := (Hrd.out wr hO).at_ Hfv.out hlt
      have hsm : small n G := fun j hj => by have h1 := hG.out j hj; have h2 := HF.out j hj; omega
      have S1 := Hst.out wr G hO ho
      have RA : ∀ W', Below wr.heap.size wr W' → RSt W' n ars G A g := fun W' hb' => S1.below hb'
      have h1 : (0 : Int) ≤ (q : Int) := by omega
      have h2 : (q : Int) < (vs.length : Int) := by omega
      have Hsm := Lib.hid hsm
      have Ho := Lib.hid ho
      clear hsm S1 ho
      go_upto_region 4 with fail
      go_cut [18] (fun s18 wx => s18 = .bool (!(mayB ars n G x)) ∧ Below wr.heap.size wr wx)
      case first =>
        go_region_held3 (fun w' => w'.cell? ⟨w.heap.size, 0, none⟩ = some (.int .i64 n) ∧ w'.cell? ⟨w.heap.size, 1, none⟩ = some (.slice A ars.length c) ∧ w'.cell? ⟨w.heap.size, 2, none⟩ = some (.slice (some ⟨g, 0, none⟩) n cf) ∧ w'.cell? ⟨b, off + q, none⟩ = some (.int .i64 x))
          (go_keep)
          (first
            | (go_at_call 42; refine (rMay_any x n ars G _ c g cf _ HN.out Hsm.out ?_).mono ?_; exact RA _ (Below.drewN (Below.refl _ _) 1); rintro e' w4 ⟨rfl, hb4⟩; have q0 : w4.cell? ⟨w.heap.size, 0, none⟩ = some (.int .i64 n) := (hb4.cell (p := ⟨w.heap.size, 0, none⟩) (by simp; omega)).trans (by simp [*]); have q1 : w4.cell? ⟨w.heap.size, 1, none⟩ = some (.slice A ars.length c) := (hb4.cell (p := ⟨w.heap.size, 1, none⟩) (by simp; omega)).trans (by simp [*]); have q2 : w4.cell? ⟨w.heap.size, 2, none⟩ = some (.slice (some ⟨g, 0, none⟩) n cf) := (hb4.cell (p := ⟨w.heap.size, 2, none⟩) (by simp; omega)).trans (by simp [*]); have q3 : w4.cell? ⟨b, off + q, none⟩ = some (.int .i64 x) := (hb4.cell (p := ⟨b, off + q, none⟩) (by simp; omega)).trans (by simp [*])))
        go_wp2
        go_meet
        exact ⟨rfl, (Below.drewN (Below.refl _ wr) 1).trans hb4⟩
      case rest =>
        obtain ⟨rfl, hb2⟩ := hcut
        have hO2 := hO.below hb2
        have ho2 := own_below Ho.out hb2
        have kb2 := kb.below hb2 hlw
        by_cases hmay : mayB ars n G x = true
        · rw [hmay]
          have hx0 : 0 ≤ x ∧ x < n := by unfold mayB at hmay; simp at hmay; exact hmay.1
          obtain ⟨k, rfl⟩ : ∃ k : Nat, x = k := ⟨x.toNat, by omega⟩
          have hk : k < n := by omega
          have hGk := hG.out k hk
          have hFk := HF.out k hk
          have ct := own_firCell ho2 hk
          have fro := ho2.frozenAt k
          have hcx := (hb2.cell (p := ⟨b, off + q, none⟩) (by have := hO.size; simp; omega)).trans hc
          have s2' := kb2.cell 2
          simp at s2'
          have st := ho2.stored k (.int .i64 (G k + 1))
          have o3 : (wc.setCell ⟨g, k, none⟩ (.int .i64 (G k + 1))).ownsRow B 3 1 (.slice (some ⟨g, 0, none⟩) n cf) n (cellsI (rowF (bump G k) n)) := by
            have := st.1
            rw [cellsI_put, rowF_set] at this
            exact this
          have O3 := hO2.trans ((onlySet wc ⟨g, k, none⟩ (.int .i64 (G k + 1))).mono (Y := fun k => k = g) (fun k _ hk => hk))
          have kb3 := kb2.far (p := ⟨g, k, none⟩) (by simp; omega) (.int .i64 (G k + 1))
          have hE1' : Hid (fireN ars n F vs = fireN ars n (bump G k) (vs.drop (q + 1)) + (q + 1)) := by
            unfold Hid; rw [hE1.out, hd.out, fireN, if_pos hmay, Int.toNat_natCast]; omega
          have hE2' : Hid (fireF ars n F vs = fireF ars n (bump G k) (vs.drop (q + 1))) := by
            unfold Hid; rw [hE2.out, hd.out, fireF, if_pos hmay, Int.toNat_natCast]
          have hG' : Hid (∀ j, j < n → 0 ≤ bump G k j ∧ bump G k j ≤ F j + (q + 1 : Nat)) := by
            intro j hj
            have := hG.out j hj
            unfold bump
            by_cases hjk : j = k
            · subst hjk; rw [upd_self]; omega
            · rw [upd_other hjk]; omega
          have h3 : (0 : Int) ≤ (k : Int) := by omega
          have h4 : (k : Int) < (n : Int) := by omega
          have O4 : Only (fun k => k = g) w (wc.setCell ⟨g, k, none⟩ (.int .i64 (G k + 1))).drew := O3.drawn ⟨1, rfl⟩
          clear hE1 hE2 hG hd hxx RA hmay st ho2 hO2 kb2 kb Ho
          go_wp2
          go_region
          go_wp2
          go_roundw
          case rel => exact ⟨q + 1, _, by omega, by go_num, O4, o3, kb3, hG', hE1', hE2'⟩
          case measure => simp [intOf]; omega
        · have hmf : mayB ars n G x = false := by simpa using hmay
          rw [hmf]
          go_wp2
          go_ret
          refine ⟨?_, ?_, hO2⟩
          · rw [hE1.out, hd.out, fireN, if_neg hmay]; simp
          · rw [hE2.out, hd.out, fireF, if_neg hmay]; exact ho2
    · go_wp2
      go_ret
      obtain rfl : q = vs.length := by omega
      refine ⟨?_, ?_, hO⟩
      · rw [hE1.out, List.drop_length]; simp [fireN]
      · rw [hE2.out, List.drop_length]; exact ho
end Go.Proofs.Ytdogddngiolpoaa
