/-
  The plain law of SimulAny: what is left at the start is the counts' sum; what is reached at the end tells whether there is a list.
-/
import Derived.Test.YtdogddngiolpoaaPz
namespace Go.Proofs.Ytdogddngiolpoaa
open Go.RowKit

theorem sumF_left {rs : List Int} (h : rs.all repB = true) : ∀ k, k ≤ rs.length → (leftSum k (leftF rs fun _ => 0) : Int) = sumF (rs.take k) := by
  intro k
  induction k with
  | zero => intro _; simp [leftSum, sumF]
  | succ k ih =>
    intro hk
    have h1 := ih (by omega)
    have h2 := repAt_lt h (f := k) (by omega)
    have h3 : rs[k]? = some (repAt rs k) := by
      unfold repAt
      rw [Int.toNat_natCast, List.getElem?_eq_getElem (by omega : k < rs.length)]
      rfl
    have h4 : leftSum (k + 1) (leftF rs fun _ => 0) = leftSum k (leftF rs fun _ => 0) + (repAt rs k).toNat := by
      unfold leftSum
      rw [List.range_succ, List.map_append, List.sum_append]
      simp [leftF]
    rw [sumF_take h3, ← h1, h4]
    omega
theorem Reach.left_le {ars : List ArcV} {n : Nat} {rs : List Int} {F : Nat → Int} (h : Reach ars n rs F) : leftSum n (leftF rs F) ≤ leftSum n (leftF rs fun _ => 0) := by
  induction h with
  | zero => exact Nat.le_refl _
  | @step F v _ hl hm ih =>
    have h1 := leftSum_upd (leftF rs F) v n (mayB_iff.1 hm).1 hl
    rw [← left_bump] at h1
    omega
/-- whatever fires first: it can be ended just if there is a list -/
theorem any_end {n : Nat} {ars : List ArcV} {rs : List Int} {G : Nat → Int} (h : wrongF n ars rs [] = 0) (hR : Reach ars n rs G) (hF : Final ars n rs G) : rowF G n = rs ↔ (ansF (pickS ars (n : Int).toNat rs []) n ars rs []).2 = [] := by
  obtain ⟨m, hm, hck, hN, hlen, hall, heven, hsum, hno⟩ := wrongF_parts h
  obtain rfl : n = m := by omega
  rw [Int.toNat_natCast]
  unfold ansF
  rw [if_pos h, Int.toNat_natCast]
  obtain ⟨c1, c2, -, -⟩ := runF_end (pickS_ok ars n rs []) (pickS_all ars n rs []) _ _ .zero (Nat.le_refl _)
  generalize runF (pickS ars n rs []) (leftSum n (leftF rs fun _ => 0)) (fun _ => 0) = r at *
  have he := end_one hN c1 c2 hR hF
  unfold endF
  rw [he]
  have hle := hR.le_reps fun v hv => by have := repAt_lt hall (f := v) (by omega); omega
  have key : blocksF ars n G (leftF rs G) n = [] ↔ rowF G n = rs := by
    constructor
    · intro hb
      refine List.ext_getElem? fun k => ?_
      by_cases hk : k < n
      · rw [rowF_at G hk]
        have h3 : rs[k]? = some (repAt rs k) := by
          unfold repAt
          rw [Int.toNat_natCast, List.getElem?_eq_getElem (by omega : k < rs.length)]
          rfl
        rw [h3]
        congr 1
        have h1 := hle k hk
        have h2 : ¬ 0 < leftF rs G k := by
          intro hl
          unfold blocksF at hb
          rw [List.map_eq_nil_iff, List.filter_eq_nil_iff] at hb
          exact hb k (List.mem_range.2 hk) (by simpa using hl)
        unfold leftF at h2
        omega
      · rw [List.getElem?_eq_none (by rw [rowF_length]; omega), List.getElem?_eq_none (by omega)]
    · intro hr
      unfold blocksF
      rw [List.map_eq_nil_iff, List.filter_eq_nil_iff]
      intro v hv
      rw [List.mem_range] at hv
      have h1 := rowF_at G hv
      rw [hr] at h1
      have h2 : repAt rs v = G v := by unfold repAt; rw [Int.toNat_natCast, h1]; rfl
      unfold leftF
      simp
      omega
  split
  · rename_i hb
    exact ⟨fun _ => rfl, fun _ => key.1 hb⟩
  · rename_i hb
    exact ⟨fun hr => key.2 hr, fun hn => absurd hn hb⟩
end Go.Proofs.Ytdogddngiolpoaa
