/-
  pianolaref15.wrong.
-/
import Derived.Test.YtdogddngiolpoaaSo
namespace Go.Proofs.Ytdogddngiolpoaa
open Go.RowKit

def sumF (rs : List Int) : Int := rs.foldl (· + ·) 0
def nodesB (n : Int) (ps : List Int) : Bool := ps.all fun x => decide (0 ≤ x ∧ x < n)
/-- what is wrong with what is asked -/
def wrongF (n : Int) (ars : List ArcV) (rs ps : List Int) : Int :=
  if holdE n ars rs = 0 then (if holdB n ars rs = true then (if 2048 < sumF rs then 5 else if nodesB n ps = true then 0 else 100) else 130) else holdE n ars rs
theorem sumF_take {rs : List Int} {k : Nat} {x : Int} (h : rs[k]? = some x) : sumF (rs.take (k + 1)) = sumF (rs.take k) + x := by
  unfold sumF
  rw [List.take_add_one, h, List.foldl_append]; rfl
theorem sumF_bound {rs : List Int} (h : rs.all repB = true) : ∀ k, 0 ≤ sumF (rs.take k) ∧ sumF (rs.take k) ≤ 4096 * (k : Int) := by
  intro k
  induction k with
  | zero => simp [sumF]
  | succ k ih =>
    by_cases hk : k < rs.length
    · rw [sumF_take (List.getElem?_eq_getElem hk)]
      have h1 := List.all_eq_true.1 h _ (List.getElem_mem hk)
      simp only [repB, decide_eq_true_eq] at h1
      omega
    · rw [List.take_of_length_le (by omega)]
      rw [List.take_of_length_le (by omega)] at ih
      omega
theorem holdB_parts {n : Int} {ars : List ArcV} {rs : List Int} (h : holdB n ars rs = true) : checkF n ars = 0 ∧ (rs.length : Int) = n ∧ rs.all repB = true ∧ ars.all (evenB rs) = true := by
  unfold holdB at h
  rw [Bool.and_eq_true, Bool.and_eq_true, decide_eq_true_eq] at h
  exact ⟨h.1.1, h.1.2, h.2.1, h.2.2⟩

set_option maxRecDepth 100000 in
set_option maxHeartbeats 4000000 in
theorem wrong_any (n : Int) (ars : List ArcV) (A : Option Addr) (l c : Nat) (rs : List Int) (R : Option Addr) (m cr : Nat) (ps : List Int) (Q : Option Addr) (q cq : Nat) (w : World) (hl : ars.length = l) (hx : ∀ a ∈ ars, a.fit) (hr : Rd w w.heap.size A (cellsA ars)) (hm : l ≤ maxLen)
    (hrs : rs.length = m) (hfr : AllFit rs) (hrr : Rd w w.heap.size R (cellsI rs)) (hmm : m ≤ maxLen) (hps : ps.length = q) (hfp : AllFit ps) (hrp : Rd w w.heap.size Q (cellsI ps)) (hqm : q ≤ maxLen) :
    Calls Try.prog 27 #[.agg #[.int .i64 n, .slice A l c], .slice R m cr, .slice Q q cq] w fun e w' => e = .returned (.int .i64 (wrongF n ars rs ps)) ∧ Below w.heap.size w w' := by
  subst hl hrs hps
  obtain ⟨res, hres⟩ : ∃ r, wrongF n ars rs ps = r := ⟨_, rfl⟩
  rw [hres]
  have Hres := Lib.hid hres
  clear hres
  have b1 := (Below.refl w.heap.size w).alloc (Nat.le_refl _) (.cells #[.int .i64 n, .slice A ars.length c] 24)
  have k1 := Blk.new w _ rfl 24 #[.int .i64 n, .slice A ars.length c]
  go_enter Try.func27, Try.ntmps27
  go_wp2_with fail
  refine (refHolds_any n ars A ars.length c rs R rs.length cr _ rfl hx ((hr.below b1 (Nat.le_refl _)).more b1.size) hm rfl hfr ((hrr.below b1 (Nat.le_refl _)).more b1.size) hmm).mono ?_; rintro e w2 ⟨rfl, hb2⟩
  have b2 := b1.trans (hb2.mono b1.size)
  have k2 := k1.below hb2 (by simp)
  have s0 := k2.cell 0
  simp at s0
  obtain ⟨hE, hhE⟩ : ∃ x, holdE n ars rs = x := ⟨_, rfl⟩
  obtain ⟨hB, hhB⟩ : ∃ x, holdB n ars rs = x := ⟨_, rfl⟩
  rw [hhE, hhB]
  have HE := Lib.hid hhE
  have HB := Lib.hid hhB
  clear hhE hhB b1 k1 hb2
  unfold maxLen at hmm hqm
  by_cases hE0 : hE = 0
  · subst hE0
    cases hB
    · have e : res = 130 := by rw [← Hres.out]; unfold wrongF; rw [if_pos HE.out, if_neg (by rw [HB.out]; simp)]
      subst e
      go_wp2
      go_ret
      exact ⟨rfl, b2⟩
    · obtain ⟨hck, hln, hall, -⟩ := holdB_parts HB.out
      obtain ⟨nn, rfl, hN⟩ := netOk_of hck
      have n32 := hN.n32
      have hln2 : rs.length = nn := by omega
      have hsb := sumF_bound hall
      have Hall := Lib.hid hall
      have Hsb := Lib.hid hsb
      have e : res = if 2048 < sumF rs then 5 else if nodesB (nn : Int) ps = true then 0 else 100 := by rw [← Hres.out]; unfold wrongF; rw [if_pos HE.out, if_pos HB.out]
      have E := Lib.hid e
      clear e hall hsb hck HE HB Hres
      go_wp2
      go_loopw [9, 10] (fun s i wr => ∃ k : Nat, k ≤ rs.length ∧ i = .int .i64 k ∧ s = .int .i64 (sumF (rs.take k)) ∧ wr = w2) (fun _ i _ => rs.length - (intOf i).toNat)
      case atStart => exact ⟨0, by omega, rfl, rfl, rfl⟩
      case round =>
        obtain ⟨k, hk, rfl, rfl, rfl⟩ := hrel
        have hs1 := Hsb.out k
        by_cases hlt : k < rs.length
        · obtain ⟨b, off, x, rfl, hb, hxf, hc, hd, hxx⟩ := (hrr.below b2 (Nat.le_refl _)).at_ hfr hlt
          have hst := sumF_take hxx.out
          have hs2 := Hsb.out (k + 1)
          rw [hst] at hs2
          generalize sumF (rs.take k) = S at *
          go_wp2
          go_roundw
          case rel => exact ⟨k + 1, by omega, by go_num, by rw [hst], trivial⟩
          case measure => simp [intOf]; omega
        · rw [List.take_of_length_le (by omega)] at hs1 ⊢
          generalize sumF rs = S at *
          by_cases hS : 2048 < S
          · have e : res = 5 := by rw [E.out, if_pos hS]
            subst e
            go_wp2
            go_ret
            exact ⟨rfl, b2⟩
          · have E2 : Hid (res = if nodesB (nn : Int) ps = true then 0 else 100) := by unfold Hid; rw [E.out, if_neg hS]
            clear E
            go_wp2
            clear hlt hS hs1
            go_loopw [11] (fun i wx => ∃ j : Nat, j ≤ ps.length ∧ i = .int .i64 j ∧ Below w.heap.size w wx ∧ Blk wx w.heap.size 24 #[.int .i64 nn, .slice A ars.length c] ∧ Hid (nodesB (nn : Int) ps = nodesB (nn : Int) (ps.drop j))) (fun i _ => ps.length - (intOf i).toNat)
            case atStart => exact ⟨0, by omega, rfl, b2, k2, rfl⟩
            case round =>
              clear b2 k2 s0
              obtain ⟨j, hj, rfl, hb, kb, He⟩ := hrel
              have s0 := kb.cell 0
              simp at s0
              by_cases hlt : j < ps.length
              · obtain ⟨b, off, x, rfl, hbl, hxf, hc, hd, hxx⟩ := (hrp.below hb (Nat.le_refl _)).at_ hfp hlt
                have h1 : (0 : Int) ≤ (j : Int) := by omega
                have h2 : (j : Int) < (ps.length : Int) := by omega
                by_cases hx0 : x < 0
                · have e : res = 100 := by rw [E2.out, He.out, if_neg]; rw [hd.out]; simp [nodesB]; omega
                  subst e
                  clear E2 He hd hxx
                  go_wp2
                  go_quiet (fail)
                  go_wp2
                  go_ret
                  exact ⟨rfl, Below.drewN hb _⟩
                · have hd0 : decide (x < 0) = false := decide_eq_false hx0
                  by_cases hxn : (nn : Int) ≤ x
                  · have e : res = 100 := by rw [E2.out, He.out, if_neg]; rw [hd.out]; simp [nodesB]; omega
                    subst e
                    clear E2 He hd hxx
                    go_wp2
                    go_quiet (fail)
                    go_wp2
                    go_ret
                    exact ⟨rfl, Below.drewN hb _⟩
                  · have hdn : decide ((nn : Int) ≤ x) = false := decide_eq_false hxn
                    have He' : Hid (nodesB (nn : Int) ps = nodesB (nn : Int) (ps.drop (j + 1))) := by
                      unfold Hid; rw [He.out]; unfold nodesB; rw [hd.out, List.all_cons, decide_eq_true (p := 0 ≤ x ∧ x < (nn : Int)) (by omega), Bool.true_and]
                    clear He hd hxx
                    go_wp2
                    go_quiet (fail)
                    go_wp2
                    go_roundw
                    case rel => exact ⟨j + 1, by omega, by go_num, Below.drewN hb _, kb, He'⟩
                    case measure => simp [intOf]; omega
              · have e : res = 0 := by rw [E2.out, He.out, List.drop_eq_nil_of_le (by omega)]; rfl
                subst e
                go_wp2
                go_ret
                exact ⟨rfl, hb⟩
  · have e : res = hE := by rw [← Hres.out]; unfold wrongF; rw [HE.out, if_neg hE0]
    subst e
    have hqq : (res != 0) = true := by simpa using hE0
    go_wp2
    go_ret
    exact ⟨rfl, b2⟩
end Go.Proofs.Ytdogddngiolpoaa
