/-
  The document's state: Short, May.
-/
import Derived.Test.YtdogddngiolpoaaSg
import Derived.Deep.RegionHeld3
namespace Go.Proofs.Ytdogddngiolpoaa
open Go.RowKit

set_option maxHeartbeats 2000000 in
theorem rShort_any (v n : Nat) (ars : List ArcV) (F : Nat → Int) (A : Option Addr) (c g cf : Nat) (w : World) (hN : NetOk n ars) (hF : small n F) (hS : RSt w n ars F A g) :
    Calls Try.prog 32 #[.agg #[.int .i64 n, .slice A ars.length c, .slice (some ⟨g, 0, none⟩) n cf], .int .i64 v] w fun e w' => e = .returned (.int .i64 (optI (shortO ars F v))) ∧ Below w.heap.size w w' := by
  have n32 := hN.n32
  have l96 := hN.l96
  have HF := Lib.hid hF
  have HN := Lib.hid hN
  have HS := Lib.hid hS
  clear hF hN hS
  have b1 : ∀ o, Below w.heap.size w (w.alloc o) := fun o => (Below.refl _ _).alloc (Nat.le_refl _) o
  go_enter Try.func32, Try.ntmps32
  go_wp2
  go_loopw [5] (fun i wr => ∃ k : Nat, k ≤ ars.length ∧ i = .int .i64 k ∧ Below w.heap.size w wr ∧ Blk wr w.heap.size 61 #[.int .i64 n, .slice A ars.length c, .slice (some ⟨g, 0, none⟩) n cf] ∧ Hid (shortO ars F v = ((List.range ars.length).drop k).find? fun i => decide ((arcAt ars i).t = v) && lacks F (arcAt ars i))) (fun i _ => ars.length - (intOf i).toNat)
  case atStart => exact ⟨0, by omega, rfl, b1 _, Blk.new w _ rfl _ _, rfl⟩
  case round =>
    clear b1
    obtain ⟨k, hk, rfl, hb, kb, He⟩ := hrel
    have s0 := kb.cell 0
    have s1 := kb.cell 1
    have s2 := kb.cell 2
    simp at s0 s1 s2
    have hlw := kb.lt
    by_cases hlt : k < ars.length
    · have S1 := HS.out.below hb
      obtain ⟨b, off, a, rfl, hbl, -, c0, c1, c2, c3, c4, -, hx⟩ := S1.arcs.arc HN.out.fit hlt
      have ha := arcAt_some hx.out
      have htk : tokI ars F k = tokA F a := by unfold tokI; rw [ha]
      have hok := HN.out.ok a (List.mem_of_getElem? hx.out)
      have htf := tokA_fit hok HF.out
      obtain ⟨f, t, ag, ak, az, rfl, hf, ht, hg1, hg2, hk1, hk2, hs1, hs2⟩ := arc_nat hok
      simp only at c0 c1 c2 c3 c4
      have hdr : (List.range ars.length).drop k = k :: (List.range ars.length).drop (k + 1) := by
        rw [List.drop_eq_getElem_cons (by simpa using hlt)]; simp
      have h1 : (0 : Int) ≤ (k : Int) := by omega
      have h2 : (k : Int) < (ars.length : Int) := by omega
      by_cases htv : t = v
      · subst htv
        have q1 : ((t : Int) == (t : Int)) = true := by simp
        obtain ⟨y, hy⟩ : ∃ y, tokI ars F k = y := ⟨_, rfl⟩
        have RA : ∀ W', Below wr.heap.size wr W' → RSt W' n ars F (some ⟨b, off, none⟩) g := fun W' hb' => S1.below hb'
        have Hdr := Lib.hid hdr
        have Hha := Lib.hid ha
        have Htk := Lib.hid htk
        clear hdr ha htk S1 hx hok
        go_upto_region 4 with fail
        go_cut [35] (fun s35 wx => s35 = .bool (decide (y < ak)) ∧ Below w.heap.size w wx ∧ Blk wx w.heap.size 61 #[.int .i64 n, .slice (some ⟨b, off, none⟩) ars.length c, .slice (some ⟨g, 0, none⟩) n cf])
        case first =>
          go_region_held3 (fun w' => w'.cell? ⟨w.heap.size, 0, none⟩ = some (.int .i64 n) ∧ w'.cell? ⟨w.heap.size, 1, none⟩ = some (.slice (some ⟨b, off, none⟩) ars.length c) ∧ w'.cell? ⟨w.heap.size, 2, none⟩ = some (.slice (some ⟨g, 0, none⟩) n cf) ∧ w'.cell? ⟨b, off + k * 5 + 1, none⟩ = some (.int .i64 t) ∧ w'.cell? ⟨b, off + k * 5 + 3, none⟩ = some (.int .i64 ak))
            (go_keep)
            (first
              | (go_at_call 43; refine (rHas_any k n ars F _ c g cf _ HN.out HF.out ?_ hlt).mono ?_; exact RA _ (Below.drewN (Below.refl _ _) 1); rintro e' w4 ⟨rfl, hb4⟩; have q0 : w4.cell? ⟨w.heap.size, 0, none⟩ = some (.int .i64 n) := (hb4.cell (p := ⟨w.heap.size, 0, none⟩) (by simp; omega)).trans (by simp [*]); have q1 : w4.cell? ⟨w.heap.size, 1, none⟩ = some (.slice (some ⟨b, off, none⟩) ars.length c) := (hb4.cell (p := ⟨w.heap.size, 1, none⟩) (by simp; omega)).trans (by simp [*]); have q2 : w4.cell? ⟨w.heap.size, 2, none⟩ = some (.slice (some ⟨g, 0, none⟩) n cf) := (hb4.cell (p := ⟨w.heap.size, 2, none⟩) (by simp; omega)).trans (by simp [*]); have q3 : w4.cell? ⟨b, off + k * 5 + 1, none⟩ = some (.int .i64 t) := (hb4.cell (p := ⟨b, off + k * 5 + 1, none⟩) (by simp; omega)).trans (by simp [*]); have q4 : w4.cell? ⟨b, off + k * 5 + 3, none⟩ = some (.int .i64 ak) := (hb4.cell (p := ⟨b, off + k * 5 + 3, none⟩) (by simp; omega)).trans (by simp [*])))
          go_wp2
          go_meet
          have hbx : Below wr.heap.size wr w4 := (Below.drewN (Below.refl _ wr) 1).trans hb4
          exact ⟨rfl, hb.trans (hbx.mono hb.size), kb.below hbx hlw⟩
        case rest =>
          obtain ⟨rfl, hb2, kb2⟩ := hcut
          have hlk : lacks F (arcAt ars k) = decide (y < ak) := by rw [← hy]; unfold lacks; rw [show tokA F (arcAt ars k) = tokI ars F k from rfl, Hha.out]
          have hat : (arcAt ars k).t = (t : Int) := by rw [Hha.out]
          have Hlk := Lib.hid hlk
          have Hat := Lib.hid hat
          clear hlk hat RA c0 c1 c2 c3 c4
          by_cases hya : y < ak
          · rw [decide_eq_true hya]
            go_wp2
            go_ret
            refine ⟨?_, hb2⟩
            rw [He.out, Hdr.out, List.find?_cons_of_pos (by simp [Hat.out, Hlk.out, hya])]
            rfl
          · rw [decide_eq_false hya]
            go_wp2
            go_roundw
            case rel => exact ⟨k + 1, by omega, by go_num, hb2, kb2, by rw [He.out, Hdr.out, List.find?_cons_of_neg (by simp [Hlk.out, hya])]; rfl⟩
            case measure => simp [intOf]; omega
      · have q1 : ((t : Int) == (v : Int)) = false := by simp; omega
        have hne : ¬ (decide ((arcAt ars k).t = (v : Int)) && lacks F (arcAt ars k)) = true := by rw [ha]; simp; omega
        have He' : Hid (shortO ars F v = ((List.range ars.length).drop (k + 1)).find? fun i => decide ((arcAt ars i).t = v) && lacks F (arcAt ars i)) := by
          unfold Hid; rw [He.out, hdr, List.find?_cons_of_neg (p := fun i => decide ((arcAt ars i).t = (v : Int)) && lacks F (arcAt ars i)) hne]
        clear hne hdr ha htk hx S1 He
        go_upto_region 4 with fail
        go_quiet (fail)
        go_wp2
        go_roundw
        case rel => exact ⟨k + 1, by omega, by go_num, Below.drewN hb _, kb, He'⟩
        case measure => simp [intOf]; omega
    · go_wp2
      go_ret
      exact ⟨by rw [He.out, List.drop_eq_nil_of_le (by simp; omega)]; rfl, hb⟩

set_option maxHeartbeats 1000000 in
theorem rMay_any (v : Int) (n : Nat) (ars : List ArcV) (F : Nat → Int) (A : Option Addr) (c g cf : Nat) (w : World) (hN : NetOk n ars) (hF : small n F) (hS : RSt w n ars F A g) :
    Calls Try.prog 42 #[.agg #[.int .i64 n, .slice A ars.length c, .slice (some ⟨g, 0, none⟩) n cf], .int .i64 v] w fun e w' => e = .returned (.bool (mayB ars n F v)) ∧ Below w.heap.size w w' := by
  have b1 : Below w.heap.size w (w.alloc (.cells #[.int .i64 n, .slice A ars.length c, .slice (some ⟨g, 0, none⟩) n cf] 61)) := (Below.refl _ _).alloc (Nat.le_refl _) _
  have k1 := Blk.new w _ rfl 61 #[.int .i64 n, .slice A ars.length c, .slice (some ⟨g, 0, none⟩) n cf]
  have hnd : nodeB n v = decide (0 ≤ v ∧ v < n) := rfl
  unfold mayB
  by_cases h : 0 ≤ v ∧ v < n
  · obtain ⟨k, rfl⟩ : ∃ k : Nat, v = k := ⟨v.toNat, by omega⟩
    rw [decide_eq_true h, Int.toNat_natCast]
    rw [decide_eq_true h] at hnd
    generalize hs : shortO ars F k = o
    go_enter Try.func42, Try.ntmps42
    go_wp2_with fail
    refine (node_any n k _ _).mono ?_; rintro e w2 ⟨rfl, hb2⟩
    rw [hnd]
    have b2 := b1.trans (hb2.mono b1.size)
    have k2 := k1.below hb2 (by simp)
    have s0 := k2.cell 0
    have s1 := k2.cell 1
    have s2 := k2.cell 2
    simp at s0 s1 s2
    go_wp2_with fail
    refine (rShort_any k n ars F A c g cf w2 hN hF (hS.below b2)).mono ?_; rintro e w3 ⟨rfl, hb3⟩
    have b3 := b2.trans (hb3.mono b2.size)
    rw [hs]
    cases o with
    | none =>
      have hx : optI (none : Option Nat) = -1 := rfl
      rw [hx]
      go_wp2
      go_ret
      exact ⟨rfl, b3⟩
    | some i =>
      have hx : optI (some i) = (i : Int) := rfl
      have hi : decide ((i : Int) < 0) = false := decide_eq_false (by omega)
      rw [hx]
      go_wp2
      go_ret
      exact ⟨rfl, b3⟩
  · rw [decide_eq_false h]
    rw [decide_eq_false h] at hnd
    go_enter Try.func42, Try.ntmps42
    go_wp2_with fail
    refine (node_any n v _ _).mono ?_; rintro e w2 ⟨rfl, hb2⟩
    rw [hnd]
    have b2 := b1.trans (hb2.mono b1.size)
    go_wp2
    go_ret
    exact ⟨rfl, b2⟩
end Go.Proofs.Ytdogddngiolpoaa
