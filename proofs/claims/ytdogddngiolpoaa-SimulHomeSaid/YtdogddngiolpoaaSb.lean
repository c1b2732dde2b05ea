/-
  net.State: has, needs, feeds, Short, May.
-/
import Derived.Test.YtdogddngiolpoaaSa
namespace Go.Proofs.Ytdogddngiolpoaa
open Go.RowKit

theorem has_any (g n c : Nat) (A : Option Addr) (v : Int) (w : World) (hc : w.cell? ⟨g, 1, none⟩ = some (.slice A n c)) :
    Calls Try.prog 45 #[.pointer (some ⟨g, 0, none⟩), .int .i64 v] w fun e w' => e = .returned (.bool (decide (0 ≤ v ∧ v < n))) ∧ w = w' := by
  by_cases h1 : 0 ≤ v
  · by_cases h2 : v < n
    · rw [decide_eq_true (p := 0 ≤ v ∧ v < n) ⟨h1, h2⟩]
      go_enter Try.func45, Try.ntmps45
      go_wp2
      go_ret
      exact ⟨rfl, rfl⟩
    · rw [decide_eq_false (p := 0 ≤ v ∧ v < n) (by omega)]
      have h2' : (n : Int) ≤ v := by omega
      go_enter Try.func45, Try.ntmps45
      go_wp2
      go_ret
      exact ⟨rfl, rfl⟩
  · rw [decide_eq_false (p := 0 ≤ v ∧ v < n) (by omega)]
    have h2' : v < 0 := by omega
    go_enter Try.func45, Try.ntmps45
    go_wp2
    go_ret
    exact ⟨rfl, rfl⟩
theorem needs_any (g gi n c : Nat) (u : Value) (v : Nat) (w : World) (hv : v < n) (hc : w.cell? ⟨g, 1, none⟩ = some (.slice (some ⟨gi, 0, none⟩) n c)) (hu : w.cell? ⟨gi, v, none⟩ = some u) :
    Calls Try.prog 39 #[.pointer (some ⟨g, 0, none⟩), .int .i64 v] w fun e w' => e = .returned u ∧ w = w' := by
  go_enter Try.func39, Try.ntmps39
  go_wp2
  go_ret
  exact ⟨rfl, rfl⟩
theorem feeds_any (g gi n c : Nat) (u : Value) (v : Nat) (w : World) (hv : v < n) (hc : w.cell? ⟨g, 2, none⟩ = some (.slice (some ⟨gi, 0, none⟩) n c)) (hu : w.cell? ⟨gi, v, none⟩ = some u) :
    Calls Try.prog 40 #[.pointer (some ⟨g, 0, none⟩), .int .i64 v] w fun e w' => e = .returned u ∧ w = w' := by
  go_enter Try.func40, Try.ntmps40
  go_wp2
  go_ret
  exact ⟨rfl, rfl⟩
/-- counts that may be reckoned with -/
def small (n : Nat) (F : Nat → Int) : Prop := ∀ j, j < n → 0 ≤ F j ∧ F j ≤ 1000000
theorem tokA_fit {n : Nat} {F : Nat → Int} {a : ArcV} (ha : a.ok n) (hF : small n F) : -64000000 ≤ tokA F a ∧ tokA F a ≤ 64000256 := by
  obtain ⟨h1, h2, h3, h4, h5, h6, h7, h8, h9, h10⟩ := ha
  have f1 := hF a.f.toNat (by omega)
  have f2 := hF a.t.toNat (by omega)
  have m1 : 0 ≤ a.g * F a.f.toNat := Int.mul_nonneg (by omega) f1.1
  have m2 : a.g * F a.f.toNat ≤ 64 * 1000000 := Int.mul_le_mul h6 f1.2 f1.1 (by omega)
  have m3 : 0 ≤ a.k * F a.t.toNat := Int.mul_nonneg (by omega) f2.1
  have m4 : a.k * F a.t.toNat ≤ 64 * 1000000 := Int.mul_le_mul h8 f2.2 f2.1 (by omega)
  unfold tokA
  omega
theorem rowF_at (F : Nat → Int) {n j : Nat} (h : j < n) : (rowF F n)[j]? = some (F j) := by simp [rowF, h]
theorem StT.tokCell {w : World} {B : Nat} {s : SM} {n : Nat} {ars : List ArcV} {T F : Nat → Int} (h : StT w B s n ars T F) {i : Nat} (hi : i < ars.length) : w.cell? ⟨s.gt, i, none⟩ = some (.int .i64 (T i)) := by
  rw [h.tok.cellAt i (by omega)]
  simp only [cellsI, List.getElem?_map, rowF_at T hi]
  rfl
theorem StT.firCell {w : World} {B : Nat} {s : SM} {n : Nat} {ars : List ArcV} {T F : Nat → Int} (h : StT w B s n ars T F) {j : Nat} (hj : j < n) : w.cell? ⟨s.gf, j, none⟩ = some (.int .i64 (F j)) := by
  rw [h.fir.cellAt j (by omega)]
  simp only [cellsI, List.getElem?_map, rowF_at F hj]
  rfl
theorem rowsAt {w : World} {B m : Nat} {A : Option Addr} {xs : List Nat} {q : Nat} (h : Rd w B A (cellsI (ints xs))) (hx : ∀ i ∈ xs, i < m) (hm : m ≤ 100000) (hq : q < xs.length) :
    ∃ b off i, A = some ⟨b, off, none⟩ ∧ b < B ∧ i < m ∧ w.cell? ⟨b, off + q, none⟩ = some (.int .i64 (i : Int)) ∧ Hid (xs.drop q = i :: xs.drop (q + 1)) ∧ Hid (xs[q]? = some i) := by
  obtain ⟨b, off, x, h1, h2, _, h4, _, h6⟩ := h.at_ (ints_fit hx hm) (by rw [ints_length]; exact hq)
  have hg : xs[q]? = some xs[q] := List.getElem?_eq_getElem hq
  have : x = (xs[q] : Int) := by
    have h7 := h6.out
    unfold ints at h7
    rw [List.getElem?_map, hg] at h7
    exact (Option.some.inj h7).symm
  subst this
  exact ⟨b, off, xs[q], h1, h2, hx _ (List.getElem_mem _), h4, List.drop_eq_getElem_cons hq, hg⟩

set_option maxHeartbeats 1000000 in
theorem short_any (v n : Nat) (ars : List ArcV) (F : Nat → Int) (B : Nat) (s : SM) (w : World) (hN : NetOk n ars) (hF : small n F) (hS : St w B s n ars F) (hv : v < n) :
    Calls Try.prog 44 #[.pointer (some ⟨s.gs, 0, none⟩), .int .i64 v] w fun e w' => e = .returned (.int .i64 (optI (shortO ars F v))) ∧ Drawn w w' := by
  have l96 := hN.l96
  have n32 := hN.n32
  have c0 := hS.blk.cell 0
  have c1 := hS.blk.cell 1
  have c3 := hS.blk.cell 3
  simp at c0 c1 c3
  have cv := hS.inb v hv
  have hrow := hS.inr v hv
  have hil : ∀ i ∈ intoF ars ars.length v, i < ars.length := fun i hi => intoF_lt hi
  have hlen : (intoF ars ars.length v).length ≤ ars.length := by
    unfold intoF
    have := List.length_filter_le (fun i => decide ((arcAt ars i).t = v)) (List.range ars.length)
    simpa using this
  rw [shortO_into]
  generalize hI : intoF ars ars.length v = I at *
  generalize s.Ai v = Av at cv hrow
  have hd : decide (0 ≤ (v : Int) ∧ (v : Int) < n) = true := decide_eq_true ⟨by omega, by omega⟩
  go_enter Try.func44, Try.ntmps44
  go_wp2_with fail
  refine (has_any s.gs n n _ v w c1).mono ?_; rintro e w' ⟨rfl, rfl⟩
  rw [hd]
  go_wp2_with fail
  refine (needs_any s.gs s.gi n n _ v w hv c1 cv).mono ?_; rintro e w' ⟨rfl, rfl⟩
  go_wp2_with fail
  have HF := Lib.hid hF
  have HN := Lib.hid hN
  have HS := Lib.hid hS
  have Hil := Lib.hid hil
  have Hrow := Lib.hid hrow
  clear hF hN hS hil hrow hI hd
  go_loopw [21] (fun i wr => ∃ q : Nat, q ≤ I.length ∧ i = .int .i64 q ∧ Drawn w wr ∧ Hid ((I.find? fun i => lacks F (arcAt ars i)) = (I.drop q).find? fun i => lacks F (arcAt ars i))) (fun i _ => I.length - (intOf i).toNat)
  case atStart => exact ⟨0, by omega, rfl, Drawn.refl w, rfl⟩
  case round =>
    obtain ⟨q, hq, rfl, hdw, He⟩ := hrel
    by_cases hlt : q < I.length
    · obtain ⟨b, off, i, rfl, hb, hi, hc, hdr, hat⟩ := rowsAt (hdw.rd Hrow.out) Hil.out (by omega) hlt
      obtain ⟨b2, off2, a, hA2, hb2, hf2, c00, c01, c02, c03, c04, hd2, hxx⟩ := (hdw.rd HS.out.arcs).arc HN.out.fit hi
      have ha := arcAt_some hxx.out
      have hok := HN.out.ok a (List.mem_of_getElem? hxx.out)
      have htf := tokA_fit hok HF.out
      have ct : wr.cell? ⟨s.gt, i, none⟩ = some (.int .i64 (tokA F a)) := by rw [hdw.cell, ← ha]; exact StT.tokCell HS.out hi
      have d0 : wr.cell? ⟨s.gs, 0, none⟩ = some (.slice s.A ars.length s.ca) := by rw [hdw.cell]; exact c0
      have d3 : wr.cell? ⟨s.gs, 3, none⟩ = some (.slice (some ⟨s.gt, 0, none⟩) ars.length ars.length) := by rw [hdw.cell]; exact c3
      rw [hA2] at d0
      have h1 : (0 : Int) ≤ (i : Int) := by omega
      have h2 : (i : Int) < (ars.length : Int) := by omega
      by_cases hl : tokA F a < a.k
      · go_wp2
        go_quiet (fail)
        go_wp2
        go_ret
        refine ⟨?_, hdw.drewN _⟩
        rw [He.out, hdr.out]
        have hl' : lacks F (arcAt ars i) = true := by rw [ha]; exact decide_eq_true hl
        rw [List.find?_cons_of_pos (p := fun i => lacks F (arcAt ars i)) hl']
        rfl
      · have hl2 : a.k ≤ tokA F a := by omega
        go_wp2
        go_quiet (fail)
        go_wp2
        go_roundw
        case rel =>
          have hl' : ¬ lacks F (arcAt ars i) = true := by rw [ha]; unfold lacks; simpa using hl2
          exact ⟨q + 1, by omega, by go_num, hdw.drewN _, by rw [He.out, hdr.out, List.find?_cons_of_neg (p := fun i => lacks F (arcAt ars i)) hl']; rfl⟩
        case measure => simp [intOf]; omega
    · go_wp2
      go_ret
      refine ⟨?_, hdw⟩
      rw [He.out, List.drop_eq_nil_of_le (by omega)]
      rfl

theorem may_any (v : Int) (n : Nat) (ars : List ArcV) (F : Nat → Int) (B : Nat) (s : SM) (w : World) (hN : NetOk n ars) (hF : small n F) (hS : St w B s n ars F) :
    Calls Try.prog 38 #[.pointer (some ⟨s.gs, 0, none⟩), .int .i64 v] w fun e w' => e = .returned (.bool (mayB ars n F v)) ∧ Drawn w w' := by
  have c1 := hS.blk.cell 1
  simp at c1
  unfold mayB
  by_cases h : 0 ≤ v ∧ v < n
  · obtain ⟨k, rfl⟩ : ∃ k : Nat, v = k := ⟨v.toNat, by omega⟩
    have hk : k < n := by omega
    rw [decide_eq_true h, Int.toNat_natCast]
    generalize hs : shortO ars F k = o
    have hd : decide (0 ≤ (k : Int) ∧ (k : Int) < n) = true := decide_eq_true h
    go_enter Try.func38, Try.ntmps38
    go_wp2_with fail
    refine (has_any s.gs n n _ k w c1).mono ?_; rintro e w' ⟨rfl, rfl⟩
    rw [hd]
    go_wp2_with fail
    refine (short_any k n ars F B s w hN hF hS hk).mono ?_; rintro e w' ⟨rfl, d1⟩
    rw [hs]
    cases o with
    | none =>
      have hx : optI (none : Option Nat) = -1 := rfl
      rw [hx]
      go_wp2
      go_ret
      exact ⟨rfl, d1⟩
    | some i =>
      have hx : optI (some i) = (i : Int) := rfl
      rw [hx]
      go_wp2
      go_ret
      exact ⟨rfl, d1⟩
  · rw [decide_eq_false h]
    go_enter Try.func38, Try.ntmps38
    go_wp2_with fail
    refine (has_any s.gs n n _ v w c1).mono ?_; rintro e w' ⟨rfl, rfl⟩
    rw [decide_eq_false h]
    go_wp2
    go_ret
    exact ⟨rfl, Drawn.refl w⟩
end Go.Proofs.Ytdogddngiolpoaa
